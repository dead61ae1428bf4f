/- Texts of the claim, joined: StateB, StateC, StateD, StateE, StateF, StateG. -/
import Derived.Laws.EntriesVeiled
import Derived.IntWalk
import Derived.Deep.RegionHeld3
import Derived.Test.YtnjgkhcnialplaaPart2
namespace Wh
open Go Go.RowKit Go.Shelf Go.Proofs
attribute [local go_sem] run_indexAt_letter
theorem line_parts (p : Plan) (x : Line) : (isGood p x.good = false ∧ lineOk p x = false) ∨ (isGood p x.good = true ∧ x.want < 1 ∧ lineOk p x = false) ∨ (isGood p x.good = true ∧ 1 ≤ x.want ∧ 200 < x.want ∧ lineOk p x = false) ∨
    (isGood p x.good = true ∧ 1 ≤ x.want ∧ x.want ≤ 200 ∧ x.got < 0 ∧ lineOk p x = false) ∨ (isGood p x.good = true ∧ 1 ≤ x.want ∧ x.want ≤ 200 ∧ 0 ≤ x.got ∧ x.want < x.got ∧ lineOk p x = false) ∨
    (isGood p x.good = true ∧ 1 ≤ x.want ∧ x.want ≤ 200 ∧ 0 ≤ x.got ∧ x.got ≤ x.want ∧ x.back < 0 ∧ lineOk p x = false) ∨ (isGood p x.good = true ∧ 1 ≤ x.want ∧ x.want ≤ 200 ∧ 0 ≤ x.got ∧ x.got ≤ x.want ∧ 0 ≤ x.back ∧ x.want < x.back ∧ lineOk p x = false) ∨
    (isGood p x.good = true ∧ 1 ≤ x.want ∧ x.want ≤ 200 ∧ 0 ≤ x.got ∧ x.got ≤ x.want ∧ 0 ≤ x.back ∧ x.back ≤ x.want ∧ lineOk p x = true) := by
  have h1 := @lineOk_iff p x
  have h2 := @isGood_iff p x.good
  cases hl : lineOk p x <;> cases hg : isGood p x.good <;> simp only [hl, hg, Bool.false_eq_true, false_iff, true_iff] at h1 h2 <;> simp only [reduceCtorEq, true_and, and_true, false_and, and_false, or_false, false_or] <;> omega

set_option maxHeartbeats 4000000 in
theorem sLine (w : World) (v : Value) (p : Plan) (x : Line) (hp : PlanV w w.heap.size v p) (hz : checkPlan p = 0) :
    Calls Try.prog 90 #[v, vLine x] w fun e w' => e = .returned (.bool (lineOk p x)) ∧ Below w.heap.size w w' := by
  have hP := hp
  obtain ⟨_, _, rfl, ⟨Ab, cb, rfl, hlb, hb⟩, ⟨As, cs, rfl, hls, hs⟩⟩ := hp
  have hb1 : isBin p 0 = true := isBin_iff.2 (by have := right_counts hz; omega)
  have hb0 : Below w.heap.size w ((w.alloc (.cells #[.slice Ab p.bins.length cb, .slice As p.sizes.length cs] 25)).alloc (.cells #[.int .i64 (x).good, .int .i64 (x).want, .int .i64 (x).got, .int .i64 (x).back] 75)) := ((Below.refl _ _).alloc (Nat.le_refl _) _).alloc (by simp) _
  unfold vLine
  rcases line_parts p x with ⟨g1, hf⟩ | ⟨g1, g2, hf⟩ | ⟨g1, g2, g3, hf⟩ | ⟨g1, g2, g3, g4, hf⟩ | ⟨g1, g2, g3, g4, g5, hf⟩ | ⟨g1, g2, g3, g4, g5, g6, hf⟩ | ⟨g1, g2, g3, g4, g5, g6, g7, hf⟩ | ⟨g1, g2, g3, g4, g5, g6, g7, hf⟩
  all_goals
    have hth : (isBin p 0 && isGood p x.good) = (isGood p x.good) := by rw [hb1]; rfl
    have hth' := Lib.hid hth
    clear hth
    have hf' := Lib.hid hf
    clear hf
    go_enter Try.func90, Try.ntmps90
    go_wp2_with fail
    refine (shThere _ _ p 0 x.good (hP.grow hb0)).mono ?_
    rintro e W1 ⟨rfl, hc1⟩
    have hB := hb0.trans (hc1.mono hb0.size)
    obtain ⟨ha1, hf1⟩ := bcell hc1
    rw [hth'.out, g1]
    go_wp2_with fail
    go_ret
    exact ⟨ret_bool (by rw [hf'.out] <;> first | rfl | (simp <;> omega)), hB⟩

set_option maxHeartbeats 2000000 in
theorem sSums (w : World) (v vl : Value) (p : Plan) (l : List Int) (lo : Int) (hp : PlanV w w.heap.size v p) (hl : Sl cInt w w.heap.size vl l) (hz : checkPlan p = 0) :
    Calls Try.prog 97 #[v, vl, .int .i64 lo] w fun e w' => e = .returned (.bool (sumsOk p l lo)) ∧ Below w.heap.size w w' := by
  have hP := hp
  obtain ⟨_, _, rfl, ⟨Ab, cb, rfl, hlb, hb⟩, ⟨As, cs, rfl, hls, hs⟩⟩ := hp
  have hL := hl
  obtain ⟨A, c, rfl, hll, hA⟩ := hl
  have hcnt := right_counts hz
  have hb0 : Below w.heap.size w (w.alloc (.cells #[.slice Ab p.bins.length cb, .slice As p.sizes.length cs] 25)) := (Below.refl _ _).alloc (Nat.le_refl _) _
  rcases sumsOk_bad (p := p) l lo (by omega) with ⟨h1, h⟩ | ⟨h1, h2, h⟩ | ⟨h1, h2, h3, h⟩ | ⟨h1, h2, h3, h⟩
  · have hne : ((l.length : Int) == (p.sizes.length : Int)) = false := by simp; omega
    have h' := Lib.hid h
    clear h h1
    go_enter Try.func97, Try.ntmps97
    go_wp2_with fail
    go_ret
    exact ⟨ret_bool (by rw [h'.out]), hb0⟩
  all_goals
    have hne : ((l.length : Int) == (p.sizes.length : Int)) = true := by simp; omega
    have hpos : 0 < l.length := by omega
    have h' := Lib.hid h
    clear h h1
    go_enter Try.func97, Try.ntmps97
    go_wp2_with (first | (go_at_call 84; refine (slMin _ _ l (hL.grow hb0) hpos).mono ?_; rintro e w' ⟨rfl, rfl⟩) | (go_at_call 85; refine (slMax _ _ l (hL.grow hb0) hpos).mono ?_; rintro e w' ⟨rfl, rfl⟩))
    go_ret
    exact ⟨ret_bool (by rw [h'.out] <;> first | rfl | (simp <;> omega)), hb0⟩

set_option maxHeartbeats 1000000 in
/-- formed's first closure: a line that may not be. -/
theorem sBadLine (p : Plan) (x : Line) (W : World) (B : Nat) (hz : checkPlan p = 0) (Ab As : Option Addr) (cb cs : Nat) (h0 : W.cell? ⟨B, 0, none⟩ = some (.slice Ab p.bins.length cb)) (h1 : W.cell? ⟨B, 1, none⟩ = some (.slice As p.sizes.length cs)) (hB : B < W.heap.size)
    (hP : PlanV W W.heap.size (.agg #[.slice Ab p.bins.length cb, .slice As p.sizes.length cs]) p) :
    Calls Try.prog 89 #[vLine x, .pointer (some ⟨B, 0, none⟩)] W fun e W' => e = .returned (.bool (!lineOk p x)) ∧ Below W.heap.size W W' := by
  have hb0 : Below W.heap.size W (W.alloc (.cells #[.int .i64 (x).good, .int .i64 (x).want, .int .i64 (x).got, .int .i64 (x).back] 75)) := (Below.refl _ _).alloc (Nat.le_refl _) _
  have hz' := Lib.hid hz
  clear hz
  unfold vLine
  go_enter Try.func89, Try.ntmps89
  go_wp2_with fail
  refine (sLine _ _ p x (hP.grow hb0) hz'.out).mono ?_
  rintro e W1 ⟨rfl, hc1⟩
  go_wp2_with fail
  go_ret
  exact ⟨rfl, hb0.trans (hc1.mono hb0.size)⟩
theorem entersBadLine : Enters Try.prog 89 := enters_of Try.func89 (by kernel_rfl) rfl

theorem holdIn_parts (p : Plan) (s : State) (h : Hold) : ((s.orders.length : Int) ≤ h.order ∧ holdIn p s h = false) ∨ (h.order < s.orders.length ∧ ((s.order h.order.toNat).lines.length : Int) ≤ h.line ∧ holdIn p s h = false) ∨
    (h.order < s.orders.length ∧ h.line < (s.order h.order.toNat).lines.length ∧ (p.bins.length : Int) ≤ h.bin ∧ holdIn p s h = false) ∨ (h.order < s.orders.length ∧ h.line < (s.order h.order.toNat).lines.length ∧ h.bin < p.bins.length ∧ holdIn p s h = true) := by
  have h1 := @holdIn_iff p s h
  cases hl : holdIn p s h <;> simp only [hl, Bool.false_eq_true, false_iff, true_iff] at h1 <;> simp only [reduceCtorEq, and_true, and_false, or_false, false_or] <;> omega

set_option maxHeartbeats 4000000 in
/-- formed's second closure: is there such a line, and such a bin? -/
theorem sHoldIn (p : Plan) (s : State) (h : Hold) (W : World) (Bs Bp : Nat) (A1 Ab : Option Addr) (c1 cb : Nat) (hs1 : W.cell? ⟨Bs, 1, none⟩ = some (.slice A1 s.orders.length c1)) (hp0 : W.cell? ⟨Bp, 0, none⟩ = some (.slice Ab p.bins.length cb)) (hBs : Bs < W.heap.size) (hBp : Bp < W.heap.size)
    (hO : SlOrders W W.heap.size (.slice A1 s.orders.length c1) s.orders) (h0 : 0 ≤ h.order) (h72 : s.orders.length ≤ 1000) (hl72 : ∀ o, o < s.orders.length → (orderAt s.orders o).lines.length ≤ 1000) :
    Calls Try.prog 91 #[vHold h, .pointer (some ⟨Bs, 0, none⟩), .pointer (some ⟨Bp, 0, none⟩)] W fun e W' => e = .returned (.bool (holdIn p s h)) ∧ Below W.heap.size W W' := by
  have hb0 : Below W.heap.size W (W.alloc (.cells #[.int .i64 (h).order, .int .i64 (h).line, .int .i64 (h).bin, .int .i64 (h).n] 87)) := (Below.refl _ _).alloc (Nat.le_refl _) _
  have hlW : W.heap.size < (W.alloc (.cells #[.int .i64 (h).order, .int .i64 (h).line, .int .i64 (h).bin, .int .i64 (h).n] 87)).heap.size := by simp
  have q0 := fun o d os => cells_wld (w := W.alloc (.cells #[.int .i64 (h).order, .int .i64 (h).line, .int .i64 (h).bin, .int .i64 (h).n] 87)) (b := Bs) (by simp; omega) o d os
  have q1 := fun o d os => cells_wld (w := W.alloc (.cells #[.int .i64 (h).order, .int .i64 (h).line, .int .i64 (h).bin, .int .i64 (h).n] 87)) (b := Bp) (by simp; omega) o d os
  have q2 := fun o d os => cells_wld (w := W.alloc (.cells #[.int .i64 (h).order, .int .i64 (h).line, .int .i64 (h).bin, .int .i64 (h).n] 87)) (b := W.heap.size) hlW o d os
  unfold vHold
  rcases holdIn_parts p s h with ⟨g1, hf⟩ | ⟨g1, g2, hf⟩ | ⟨g1, g2, g3, hf⟩ | ⟨g1, g2, g3, hf⟩
  · have hf' := Lib.hid hf
    have d1 : decide (h.order < (s.orders.length : Int)) = false := by simpa using g1
    clear hf hl72
    go_enter Try.func91, Try.ntmps91
    go_wp2_with fail
    refine wp_region_wld (by kernel_rfl) (by kernel_rfl) ?_
    repeat (go_big_quiet_step (fail))
    refine wpQuiet_nil ?_
    intro W2 hw'
    have hb2 := below_of_cls hw'
    clear hw'
    go_wp2_with fail
    go_ret
    exact ⟨ret_bool (by rw [hf'.out]), hb0.trans (hb2.mono hb0.size)⟩
  · have hf' := Lib.hid hf
    have hol : h.order.toNat < s.orders.length := by omega
    obtain ⟨A', c', hok1, hAb1, _, e1, hsl⟩ := hO.order hol
    have hll := hl72 _ hol
    unfold State.order at g2
    have q3 := fun o d os => cells_wld (w := W.alloc (.cells #[.int .i64 (h).order, .int .i64 (h).line, .int .i64 (h).bin, .int .i64 (h).n] 87)) (b := ablk A1) (by simp; omega) o d os
    have d1 : decide (h.order < (s.orders.length : Int)) = true := by simpa using g1
    have d2 : decide (h.line < ((orderAt s.orders h.order.toNat).lines.length : Int)) = false := by simpa using g2
    clear hf hl72
    go_enter Try.func91, Try.ntmps91
    go_wp2_with fail
    refine wp_region_wld (by kernel_rfl) (by kernel_rfl) ?_
    repeat (go_big_quiet_step (fail))
    refine wpQuiet_nil ?_
    intro W2 hw'
    have hb2 := below_of_cls hw'
    clear hw'
    go_wp2_with fail
    go_ret
    exact ⟨ret_bool (by rw [hf'.out] <;> first | rfl | (simp <;> omega)), hb0.trans (hb2.mono hb0.size)⟩
  · have hf' := Lib.hid hf
    have hol : h.order.toNat < s.orders.length := by omega
    obtain ⟨A', c', hok1, hAb1, _, e1, hsl⟩ := hO.order hol
    have hll := hl72 _ hol
    unfold State.order at g2
    have q3 := fun o d os => cells_wld (w := W.alloc (.cells #[.int .i64 (h).order, .int .i64 (h).line, .int .i64 (h).bin, .int .i64 (h).n] 87)) (b := ablk A1) (by simp; omega) o d os
    have d1 : decide (h.order < (s.orders.length : Int)) = true := by simpa using g1
    have d2 : decide (h.line < ((orderAt s.orders h.order.toNat).lines.length : Int)) = true := by simpa using g2
    have d3 : decide (h.bin < (p.bins.length : Int)) = false := by simpa using g3
    clear hf hl72
    go_enter Try.func91, Try.ntmps91
    go_wp2_with fail
    refine wp_region_wld (by kernel_rfl) (by kernel_rfl) ?_
    repeat (go_big_quiet_step (fail))
    refine wpQuiet_nil ?_
    intro W2 hw'
    have hb2 := below_of_cls hw'
    clear hw'
    go_wp2_with fail
    go_ret
    exact ⟨ret_bool (by rw [hf'.out] <;> first | rfl | (simp <;> omega)), hb0.trans (hb2.mono hb0.size)⟩
  · have hf' := Lib.hid hf
    have hol : h.order.toNat < s.orders.length := by omega
    obtain ⟨A', c', hok1, hAb1, _, e1, hsl⟩ := hO.order hol
    have hll := hl72 _ hol
    unfold State.order at g2
    have q3 := fun o d os => cells_wld (w := W.alloc (.cells #[.int .i64 (h).order, .int .i64 (h).line, .int .i64 (h).bin, .int .i64 (h).n] 87)) (b := ablk A1) (by simp; omega) o d os
    have d1 : decide (h.order < (s.orders.length : Int)) = true := by simpa using g1
    have d2 : decide (h.line < ((orderAt s.orders h.order.toNat).lines.length : Int)) = true := by simpa using g2
    have d3 : decide (h.bin < (p.bins.length : Int)) = true := by simpa using g3
    clear hf hl72
    go_enter Try.func91, Try.ntmps91
    go_wp2_with fail
    refine wp_region_wld (by kernel_rfl) (by kernel_rfl) ?_
    repeat (go_big_quiet_step (fail))
    refine wpQuiet_nil ?_
    intro W2 hw'
    have hb2 := below_of_cls hw'
    clear hw'
    go_wp2_with fail
    go_ret
    exact ⟨ret_bool (by rw [hf'.out] <;> first | rfl | (simp <;> omega)), hb0.trans (hb2.mono hb0.size)⟩
end Wh
namespace Wh
open Go Go.RowKit Go.Shelf Go.Proofs
attribute [local go_sem] run_indexAt_letter
theorem move_parts (p : Plan) (x : Move) : ((isBin p x.src && isGood p x.good) = false ∧ moveOk p x = false) ∨ ((isBin p x.src && isGood p x.good) = true ∧ (isBin p x.dst && isGood p x.good) = false ∧ moveOk p x = false) ∨
    ((isBin p x.src && isGood p x.good) = true ∧ (isBin p x.dst && isGood p x.good) = true ∧ (x.src != x.dst) = false ∧ moveOk p x = false) ∨
    ((isBin p x.src && isGood p x.good) = true ∧ (isBin p x.dst && isGood p x.good) = true ∧ (x.src != x.dst) = true ∧ x.n < 1 ∧ moveOk p x = false) ∨
    ((isBin p x.src && isGood p x.good) = true ∧ (isBin p x.dst && isGood p x.good) = true ∧ (x.src != x.dst) = true ∧ 1 ≤ x.n ∧ 200 < x.n ∧ moveOk p x = false) ∨
    ((isBin p x.src && isGood p x.good) = true ∧ (isBin p x.dst && isGood p x.good) = true ∧ (x.src != x.dst) = true ∧ 1 ≤ x.n ∧ x.n ≤ 200 ∧ moveOk p x = true) := by
  unfold moveOk
  have hw := @within_iff x.n 1 200
  cases isBin p x.src <;> cases isGood p x.good <;> cases isBin p x.dst <;> by_cases h : x.src = x.dst <;> cases hq : within x.n 1 200 <;> simp [h, hq] at hw ⊢ <;> omega

set_option maxHeartbeats 4000000 in
theorem sMoveOk (p : Plan) (x : Move) (W : World) (B : Nat) (Ab As : Option Addr) (cb cs : Nat) (h0 : W.cell? ⟨B, 0, none⟩ = some (.slice Ab p.bins.length cb)) (h1 : W.cell? ⟨B, 1, none⟩ = some (.slice As p.sizes.length cs)) (hB : B < W.heap.size)
    (hP : PlanV W W.heap.size (.agg #[.slice Ab p.bins.length cb, .slice As p.sizes.length cs]) p) :
    Calls Try.prog 92 #[vMove x, .pointer (some ⟨B, 0, none⟩)] W fun e W' => e = .returned (.bool (moveOk p x)) ∧ Below W.heap.size W W' := by
  have hb0 : Below W.heap.size W (W.alloc (.cells #[.int .i64 (x).good, .int .i64 (x).src, .int .i64 (x).dst, .int .i64 (x).n] 92)) := (Below.refl _ _).alloc (Nat.le_refl _) _
  have hBl : B < (W.alloc (.cells #[.int .i64 (x).good, .int .i64 (x).src, .int .i64 (x).dst, .int .i64 (x).n] 92)).heap.size := by simp; omega
  unfold vMove
  rcases move_parts p x with ⟨g1, hf⟩ | ⟨g1, g2, hf⟩ | ⟨g1, g2, g3, hf⟩ | ⟨g1, g2, g3, g4, hf⟩ | ⟨g1, g2, g3, g4, g5, hf⟩ | ⟨g1, g2, g3, g4, g5, hf⟩
  · have hf' := Lib.hid hf
    have g1' := Lib.hid g1
    clear hf g1
    go_enter Try.func92, Try.ntmps92
    go_wp2_with fail
    refine (shThere _ _ p x.src x.good (hP.grow hb0)).mono ?_
    rintro e W1 ⟨rfl, hc1⟩
    rw [g1'.out]
    go_wp2_with fail
    go_ret
    exact ⟨ret_bool (by rw [hf'.out]), hb0.trans (hc1.mono hb0.size)⟩
  all_goals
    have hf' := Lib.hid hf
    have g1' := Lib.hid g1
    have g2' := Lib.hid g2
    clear hf g1 g2
    go_enter Try.func92, Try.ntmps92
    go_wp2_with fail
    refine (shThere _ _ p x.src x.good (hP.grow hb0)).mono ?_
    rintro e W1 ⟨rfl, hc1⟩
    have hb01 := hb0.trans (hc1.mono hb0.size)
    obtain ⟨hd1, hf1⟩ := bcell hc1
    rw [g1'.out]
    go_wp2_with fail
    refine (shThere _ _ p x.dst x.good (hP.grow hb01)).mono ?_
    rintro e W2 ⟨rfl, hc2⟩
    have hc12 := hc1.trans (hc2.mono hc1.size)
    obtain ⟨hd2, hf2⟩ := bcell hc12
    clear hd1 hf1
    rw [g2'.out]
    go_wp2_with fail
    go_ret
    exact ⟨ret_bool (by rw [hf'.out] <;> first | rfl | (simp <;> omega)), hb0.trans (hc12.mono hb0.size)⟩

set_option maxHeartbeats 1000000 in
/-- formed's closures over closures. -/
theorem sBadHold (p : Plan) (s : State) (h : Hold) (W : World) (Bc Bs Bp : Nat) (A1 Ab : Option Addr) (c1 cb : Nat) (hc : W.cell? ⟨Bc, 0, none⟩ = some (.func (.func 91) #[] #[.pointer (some ⟨Bs, 0, none⟩), .pointer (some ⟨Bp, 0, none⟩)])) (hBc : Bc < W.heap.size)
    (hs1 : W.cell? ⟨Bs, 1, none⟩ = some (.slice A1 s.orders.length c1)) (hp0 : W.cell? ⟨Bp, 0, none⟩ = some (.slice Ab p.bins.length cb)) (hBs : Bs < W.heap.size) (hBp : Bp < W.heap.size)
    (hO : SlOrders W W.heap.size (.slice A1 s.orders.length c1) s.orders) (h0 : 0 ≤ h.order) (h72 : s.orders.length ≤ 1000) (hl72 : ∀ o, o < s.orders.length → (orderAt s.orders o).lines.length ≤ 1000) :
    Calls Try.prog 94 #[vHold h, .pointer (some ⟨Bc, 0, none⟩)] W fun e W' => e = .returned (.bool (!holdIn p s h)) ∧ Below W.heap.size W W' := by
  have hb0 : Below W.heap.size W (W.alloc (.cells #[.int .i64 (h).order, .int .i64 (h).line, .int .i64 (h).bin, .int .i64 (h).n] 87)) := (Below.refl _ _).alloc (Nat.le_refl _) _
  have hl' := Lib.hid hl72
  have r1 : (W.alloc (.cells #[.int .i64 (h).order, .int .i64 (h).line, .int .i64 (h).bin, .int .i64 (h).n] 87)).cell? ⟨Bs, 1, none⟩ = some (.slice A1 s.orders.length c1) := (hb0.cell (p := ⟨Bs, 1, none⟩) hBs).trans hs1
  have r2 : (W.alloc (.cells #[.int .i64 (h).order, .int .i64 (h).line, .int .i64 (h).bin, .int .i64 (h).n] 87)).cell? ⟨Bp, 0, none⟩ = some (.slice Ab p.bins.length cb) := (hb0.cell (p := ⟨Bp, 0, none⟩) hBp).trans hp0
  have H := Lib.hid (sHoldIn p s h (W.alloc (.cells #[.int .i64 (h).order, .int .i64 (h).line, .int .i64 (h).bin, .int .i64 (h).n] 87)) Bs Bp A1 Ab c1 cb r1 r2 (by simp; omega) (by simp; omega) (hO.up hb0 hb0.size) h0 h72 hl72)
  clear hl72 r1 r2
  unfold vHold
  go_enter Try.func94, Try.ntmps94
  go_wp2_with fail
  refine H.out.mono ?_
  rintro e W1 ⟨rfl, hc1⟩
  go_wp2_with fail
  go_ret
  exact ⟨rfl, hb0.trans (hc1.mono hb0.size)⟩
theorem entersBadHold : Enters Try.prog 94 := enters_of Try.func94 (by kernel_rfl) rfl

set_option maxHeartbeats 1000000 in
theorem sBadMove (p : Plan) (x : Move) (W : World) (Bc B : Nat) (Ab As : Option Addr) (cb cs : Nat) (hc : W.cell? ⟨Bc, 0, none⟩ = some (.func (.func 92) #[] #[.pointer (some ⟨B, 0, none⟩)])) (hBc : Bc < W.heap.size)
    (h0 : W.cell? ⟨B, 0, none⟩ = some (.slice Ab p.bins.length cb)) (h1 : W.cell? ⟨B, 1, none⟩ = some (.slice As p.sizes.length cs)) (hB : B < W.heap.size)
    (hP : PlanV W W.heap.size (.agg #[.slice Ab p.bins.length cb, .slice As p.sizes.length cs]) p) :
    Calls Try.prog 96 #[vMove x, .pointer (some ⟨Bc, 0, none⟩)] W fun e W' => e = .returned (.bool (!moveOk p x)) ∧ Below W.heap.size W W' := by
  have hb0 : Below W.heap.size W (W.alloc (.cells #[.int .i64 (x).good, .int .i64 (x).src, .int .i64 (x).dst, .int .i64 (x).n] 92)) := (Below.refl _ _).alloc (Nat.le_refl _) _
  have r1 : (W.alloc (.cells #[.int .i64 (x).good, .int .i64 (x).src, .int .i64 (x).dst, .int .i64 (x).n] 92)).cell? ⟨B, 0, none⟩ = some (.slice Ab p.bins.length cb) := (hb0.cell (p := ⟨B, 0, none⟩) hB).trans h0
  have r2 : (W.alloc (.cells #[.int .i64 (x).good, .int .i64 (x).src, .int .i64 (x).dst, .int .i64 (x).n] 92)).cell? ⟨B, 1, none⟩ = some (.slice As p.sizes.length cs) := (hb0.cell (p := ⟨B, 1, none⟩) hB).trans h1
  have H := Lib.hid (sMoveOk p x (W.alloc (.cells #[.int .i64 (x).good, .int .i64 (x).src, .int .i64 (x).dst, .int .i64 (x).n] 92)) B Ab As cb cs r1 r2 (by simp; omega) (hP.grow hb0))
  clear r1 r2
  unfold vMove
  go_enter Try.func96, Try.ntmps96
  go_wp2_with fail
  refine H.out.mono ?_
  rintro e W1 ⟨rfl, hc1⟩
  go_wp2_with fail
  go_ret
  exact ⟨rfl, hb0.trans (hc1.mono hb0.size)⟩
theorem entersBadMove : Enters Try.prog 96 := enters_of Try.func96 (by kernel_rfl) rfl

set_option maxHeartbeats 1000000 in
/-- Check's closure: too few lines, or too many. -/
theorem sBadOrder (o : Order) (u : Value) (W : World) (hu : Sl cLine W W.heap.size u o.lines) :
    Calls Try.prog 56 #[.agg #[.int .i64 o.kind, u]] W fun e W' => e = .returned (.bool (!within o.lines.length 1 3)) ∧ Below W.heap.size W W' := by
  obtain ⟨A, c, rfl, hl, hA⟩ := hu
  have hb0 : Below W.heap.size W (W.alloc (.cells #[.int .i64 o.kind, .slice A o.lines.length c] 73)) := (Below.refl _ _).alloc (Nat.le_refl _) _
  have hp : (o.lines.length < 1 ∧ within o.lines.length 1 3 = false) ∨ (1 ≤ o.lines.length ∧ 3 < o.lines.length ∧ within o.lines.length 1 3 = false) ∨ (1 ≤ o.lines.length ∧ o.lines.length ≤ 3 ∧ within o.lines.length 1 3 = true) := by
    have h1 := @within_iff o.lines.length 1 3
    cases hq : within o.lines.length 1 3 <;> simp only [hq, Bool.false_eq_true, false_iff, true_iff] at h1 <;> simp only [reduceCtorEq, and_true, and_false, or_false, false_or] <;> omega
  rcases hp with ⟨g1, hf⟩ | ⟨g1, g2, hf⟩ | ⟨g1, g2, hf⟩
  all_goals
    have hf' := Lib.hid hf
    clear hf
    go_enter Try.func56, Try.ntmps56
    go_wp2_with fail
    go_ret
    exact ⟨ret_bool (by rw [hf'.out] <;> first | rfl | (simp <;> omega)), hb0⟩
theorem entersBadOrder : Enters Try.prog 56 := enters_of Try.func56 (by kernel_rfl) rfl
end Wh
namespace Wh
open Go Go.RowKit Go.Shelf Go.Proofs
attribute [local go_sem] run_indexAt_letter
theorem formed_orders {p : Plan} {s : State} {o : Nat} (ho : o < s.orders.length) (h : orderOk p (orderAt s.orders o) = false) : formed p s = false := by
  unfold formed
  rw [all_no dOrder ho h]
  simp
theorem check_ok0 {l : List Hold} (h : holdsOk l = true) : checkHolds l = 0 := by unfold checkHolds; rw [h]; rfl
theorem order_parts (p : Plan) (o : Order) : (o.kind < 0 ∧ orderOk p o = false) ∨ (0 ≤ o.kind ∧ 2 < o.kind ∧ orderOk p o = false) ∨ (0 ≤ o.kind ∧ o.kind ≤ 2 ∧ (o.lines.any fun x => !lineOk p x) = true ∧ orderOk p o = false) ∨
    (0 ≤ o.kind ∧ o.kind ≤ 2 ∧ (o.lines.any fun x => !lineOk p x) = false ∧ orderOk p o = true) := by
  have h := @orderOk_iff p o
  rw [any_not]
  cases hq : orderOk p o <;> cases hl : o.lines.all (lineOk p) <;> simp only [hq, hl, Bool.false_eq_true, false_iff, true_iff, and_true, and_false] at h <;>
    simp only [reduceCtorEq, Bool.not_true, Bool.not_false, and_true, and_false, or_false, false_or] <;> omega
theorem rest_formed {p : Plan} {s : State} (h : s.orders.all (orderOk p) = true) : formed p s = (holdsOk s.holds && (!(s.holds.any fun x => !holdIn p s x) && (!(s.moves.any fun x => !moveOk p x) && (sumsOk p s.inn 0 && (sumsOk p s.out 0 && sumsOk p s.fixed (-1048576)))))) := by
  unfold formed
  rw [h, any_not, any_not]
  simp [Bool.and_assoc]

set_option maxHeartbeats 8000000 in
set_option maxRecDepth 10000 in
theorem sFormed (w : World) (v vs : Value) (p : Plan) (s : State) (hp : PlanV w w.heap.size v p) (hv : StateV w w.heap.size vs s) (hz : checkPlan p = 0) (h4 : s.orders.length ≤ 4) (hll3 : ∀ o, o < s.orders.length → (orderAt s.orders o).lines.length ≤ 1000) :
    Calls Try.prog 57 #[v, vs] w fun e w' => e = .returned (.bool (formed p s)) ∧ Below w.heap.size w w' := by
  have hP := hp
  obtain ⟨_, _, rfl, ⟨Ab, cb, rfl, hlb, hb⟩, ⟨As, cs, rfl, hls, hs⟩⟩ := hp
  have hS := hv
  obtain ⟨_, _, _, _, _, _, _, rfl, ⟨A0, c0, vs0, rfl, hl0, hm0, ha0, hr0⟩, ⟨A1, c1, vs1, rfl, hl1, hm1, ha1, hr1⟩, ⟨A2, c2, rfl, hl2, ha2⟩, ⟨A3, c3, rfl, hl3, ha3⟩, ⟨A4, c4, rfl, hl4, ha4⟩, ⟨A5, c5, rfl, hl5, ha5⟩, ⟨A6, c6, rfl, hl6, ha6⟩⟩ := hv
  have hb0 : Below w.heap.size w ((w.alloc (.cells #[.slice Ab p.bins.length cb, .slice As p.sizes.length cs] 25)).alloc (.cells #[.slice A0 s.on.length c0, .slice A1 s.orders.length c1, .slice A2 s.holds.length c2, .slice A3 s.moves.length c3, .slice A4 s.inn.length c4, .slice A5 s.out.length c5, .slice A6 s.fixed.length c6] 31)) := ((Below.refl _ _).alloc (Nat.le_refl _) _).alloc (by simp) _
  have hsz0 : w.heap.size + 1 < ((w.alloc (.cells #[.slice Ab p.bins.length cb, .slice As p.sizes.length cs] 25)).alloc (.cells #[.slice A0 s.on.length c0, .slice A1 s.orders.length c1, .slice A2 s.holds.length c2, .slice A3 s.moves.length c3, .slice A4 s.inn.length c4, .slice A5 s.out.length c5, .slice A6 s.fixed.length c6] 31)).heap.size := by simp
  have hz0 : (((w.alloc (.cells #[.slice Ab p.bins.length cb, .slice As p.sizes.length cs] 25)).alloc (.cells #[.slice A0 s.on.length c0, .slice A1 s.orders.length c1, .slice A2 s.holds.length c2, .slice A3 s.moves.length c3, .slice A4 s.inn.length c4, .slice A5 s.out.length c5, .slice A6 s.fixed.length c6] 31)).cell? ⟨w.heap.size, 0, none⟩ = some (.slice Ab p.bins.length cb) ∧ ((w.alloc (.cells #[.slice Ab p.bins.length cb, .slice As p.sizes.length cs] 25)).alloc (.cells #[.slice A0 s.on.length c0, .slice A1 s.orders.length c1, .slice A2 s.holds.length c2, .slice A3 s.moves.length c3, .slice A4 s.inn.length c4, .slice A5 s.out.length c5, .slice A6 s.fixed.length c6] 31)).cell? ⟨w.heap.size, 1, none⟩ = some (.slice As p.sizes.length cs)) ∧
      ((w.alloc (.cells #[.slice Ab p.bins.length cb, .slice As p.sizes.length cs] 25)).alloc (.cells #[.slice A0 s.on.length c0, .slice A1 s.orders.length c1, .slice A2 s.holds.length c2, .slice A3 s.moves.length c3, .slice A4 s.inn.length c4, .slice A5 s.out.length c5, .slice A6 s.fixed.length c6] 31)).cell? ⟨w.heap.size + 1, 1, none⟩ = some (.slice A1 s.orders.length c1) ∧ ((w.alloc (.cells #[.slice Ab p.bins.length cb, .slice As p.sizes.length cs] 25)).alloc (.cells #[.slice A0 s.on.length c0, .slice A1 s.orders.length c1, .slice A2 s.holds.length c2, .slice A3 s.moves.length c3, .slice A4 s.inn.length c4, .slice A5 s.out.length c5, .slice A6 s.fixed.length c6] 31)).cell? ⟨w.heap.size + 1, 2, none⟩ = some (.slice A2 s.holds.length c2) ∧ ((w.alloc (.cells #[.slice Ab p.bins.length cb, .slice As p.sizes.length cs] 25)).alloc (.cells #[.slice A0 s.on.length c0, .slice A1 s.orders.length c1, .slice A2 s.holds.length c2, .slice A3 s.moves.length c3, .slice A4 s.inn.length c4, .slice A5 s.out.length c5, .slice A6 s.fixed.length c6] 31)).cell? ⟨w.heap.size + 1, 3, none⟩ = some (.slice A3 s.moves.length c3) ∧
      ((w.alloc (.cells #[.slice Ab p.bins.length cb, .slice As p.sizes.length cs] 25)).alloc (.cells #[.slice A0 s.on.length c0, .slice A1 s.orders.length c1, .slice A2 s.holds.length c2, .slice A3 s.moves.length c3, .slice A4 s.inn.length c4, .slice A5 s.out.length c5, .slice A6 s.fixed.length c6] 31)).cell? ⟨w.heap.size + 1, 4, none⟩ = some (.slice A4 s.inn.length c4) ∧ ((w.alloc (.cells #[.slice Ab p.bins.length cb, .slice As p.sizes.length cs] 25)).alloc (.cells #[.slice A0 s.on.length c0, .slice A1 s.orders.length c1, .slice A2 s.holds.length c2, .slice A3 s.moves.length c3, .slice A4 s.inn.length c4, .slice A5 s.out.length c5, .slice A6 s.fixed.length c6] 31)).cell? ⟨w.heap.size + 1, 5, none⟩ = some (.slice A5 s.out.length c5) ∧ ((w.alloc (.cells #[.slice Ab p.bins.length cb, .slice As p.sizes.length cs] 25)).alloc (.cells #[.slice A0 s.on.length c0, .slice A1 s.orders.length c1, .slice A2 s.holds.length c2, .slice A3 s.moves.length c3, .slice A4 s.inn.length c4, .slice A5 s.out.length c5, .slice A6 s.fixed.length c6] 31)).cell? ⟨w.heap.size + 1, 6, none⟩ = some (.slice A6 s.fixed.length c6) := by simp
  have hO := Lib.hid (fun W (hW : Below w.heap.size w W) => (SlOrders.up ⟨A1, c1, vs1, rfl, hl1, hm1, ha1, hr1⟩ hW hW.size : SlOrders W W.heap.size (.slice A1 s.orders.length c1) s.orders))
  have hH := Lib.hid (fun W (hW : Below w.heap.size w W) => (Sl.up ⟨A2, c2, rfl, hl2, ha2⟩ hW hW.size : Sl cHold W W.heap.size (.slice A2 s.holds.length c2) s.holds))
  have hM := Lib.hid (fun W (hW : Below w.heap.size w W) => (Sl.up ⟨A3, c3, rfl, hl3, ha3⟩ hW hW.size : Sl cMove W W.heap.size (.slice A3 s.moves.length c3) s.moves))
  have hI := Lib.hid (fun W (hW : Below w.heap.size w W) => (Sl.up ⟨A4, c4, rfl, hl4, ha4⟩ hW hW.size : Sl cInt W W.heap.size (.slice A4 s.inn.length c4) s.inn))
  have hU := Lib.hid (fun W (hW : Below w.heap.size w W) => (Sl.up ⟨A5, c5, rfl, hl5, ha5⟩ hW hW.size : Sl cInt W W.heap.size (.slice A5 s.out.length c5) s.out))
  have hX := Lib.hid (fun W (hW : Below w.heap.size w W) => (Sl.up ⟨A6, c6, rfl, hl6, ha6⟩ hW hW.size : Sl cInt W W.heap.size (.slice A6 s.fixed.length c6) s.fixed))
  have hP' := Lib.hid (fun W (hW : Below w.heap.size w W) => hP.up hW hW.size)
  have hz' := Lib.hid hz
  have hl3' := Lib.hid hll3
  clear hz hll3 hP
  go_enter Try.func57, Try.ntmps57
  go_wp2_with fail
  generalize hW0 : (w.alloc (.cells #[.slice Ab p.bins.length cb, .slice As p.sizes.length cs] 25)).alloc (.cells #[.slice A0 s.on.length c0, .slice A1 s.orders.length c1, .slice A2 s.holds.length c2, .slice A3 s.moves.length c3, .slice A4 s.inn.length c4, .slice A5 s.out.length c5, .slice A6 s.fixed.length c6] 31) = W0 at hb0 hsz0 hz0 ⊢
  have hz0' := Lib.hid hz0
  clear hW0 hz0
  have hsz1 : w.heap.size < W0.heap.size := by omega
  have hK := Lib.hid (fun W (hW : Below W0.heap.size W0 W) => And.intro (And.intro ((hW.cell (p := ⟨w.heap.size, 0, none⟩) hsz1).trans hz0'.out.1.1) ((hW.cell (p := ⟨w.heap.size, 1, none⟩) hsz1).trans hz0'.out.1.2))
    (And.intro ((hW.cell (p := ⟨w.heap.size + 1, 1, none⟩) hsz0).trans hz0'.out.2.1) (And.intro ((hW.cell (p := ⟨w.heap.size + 1, 2, none⟩) hsz0).trans hz0'.out.2.2.1) (And.intro ((hW.cell (p := ⟨w.heap.size + 1, 3, none⟩) hsz0).trans hz0'.out.2.2.2.1)
    (And.intro ((hW.cell (p := ⟨w.heap.size + 1, 4, none⟩) hsz0).trans hz0'.out.2.2.2.2.1) (And.intro ((hW.cell (p := ⟨w.heap.size + 1, 5, none⟩) hsz0).trans hz0'.out.2.2.2.2.2.1) ((hW.cell (p := ⟨w.heap.size + 1, 6, none⟩) hsz0).trans hz0'.out.2.2.2.2.2.2)))))))
  obtain ⟨⟨y0, y1⟩, x1, x2, x3, x4, x5, x6⟩ := hK.out W0 (Below.refl _ _)
  go_loopw [12, 6] (fun i _ wr => ∃ k : Nat, k ≤ s.orders.length ∧ i = .int .i64 k ∧ (∀ j, j < k → orderOk p (orderAt s.orders j) = true) ∧ Below W0.heap.size W0 wr) (fun i _ _ => s.orders.length - (intOf i).toNat)
  case atStart => exact ⟨0, Nat.zero_le _, rfl, fun j hj => by omega, Below.refl _ _⟩
  case round =>
    clear y0 y1 x1 x2 x3 x4 x5 x6
    obtain ⟨k, hk, rfl, hall, hbw⟩ := hrel
    have hall' := Lib.hid hall
    clear hall
    have hB := hb0.trans (hbw.mono hb0.size)
    by_cases hlt : k < s.orders.length
    · obtain ⟨A', c', hok1, hAb1, d0, d1, hsl⟩ := (hO.out wr hB).order hlt
      have hba : Below W0.heap.size W0 (wr.alloc (.cells #[.int .i64 (orderAt s.orders k).kind, .slice A' (orderAt s.orders k).lines.length c'] 73)) := hbw.alloc hbw.size _
      have hwa : Below wr.heap.size wr (wr.alloc (.cells #[.int .i64 (orderAt s.orders k).kind, .slice A' (orderAt s.orders k).lines.length c'] 73)) := (Below.refl _ _).alloc (Nat.le_refl _) _
      rcases order_parts p (orderAt s.orders k) with ⟨g1, hf⟩ | ⟨g1, g2, hf⟩ | ⟨g1, g2, g3, hf⟩ | ⟨g1, g2, g3, hf⟩
      · have hfin := Lib.hid (formed_orders hlt hf)
        clear hf
        go_wp2_with fail
        go_ret
        exact ⟨ret_bool (by rw [hfin.out]), hb0.trans (hba.mono hb0.size)⟩
      · have hfin := Lib.hid (formed_orders hlt hf)
        clear hf
        go_wp2_with fail
        go_ret
        exact ⟨ret_bool (by rw [hfin.out]), hb0.trans (hba.mono hb0.size)⟩
      · have hfin := Lib.hid (formed_orders hlt hf)
        have g3' := Lib.hid g3
        clear hf g3
        go_wp2_with fail
        refine (containsFuncLine _ _ (orderAt s.orders k).lines 89 #[.pointer (some ⟨w.heap.size, 0, none⟩)] (fun x => !lineOk p x) entersBadLine (hsl.grow hwa) (fun j _ W hW => by
          have hW2 := hba.trans (hW.mono hba.size)
          obtain ⟨⟨a0, a1⟩, _⟩ := hK.out W hW2
          exact sBadLine p _ W w.heap.size hz'.out Ab As cb cs a0 a1 (Nat.lt_of_lt_of_le hsz1 hW2.size) (hP'.out W (hb0.trans (hW2.mono hb0.size))))).mono ?_
        rintro e W2 ⟨rfl, hb2⟩
        rw [g3'.out]
        have hb02 := hba.trans (hb2.mono hba.size)
        go_wp2_with fail
        go_ret
        exact ⟨ret_bool (by rw [hfin.out]), hb0.trans (hb02.mono hb0.size)⟩
      · have g3' := Lib.hid g3
        have hf' := Lib.hid hf
        clear hf g3
        go_wp2_with fail
        refine (containsFuncLine _ _ (orderAt s.orders k).lines 89 #[.pointer (some ⟨w.heap.size, 0, none⟩)] (fun x => !lineOk p x) entersBadLine (hsl.grow hwa) (fun j _ W hW => by
          have hW2 := hba.trans (hW.mono hba.size)
          obtain ⟨⟨a0, a1⟩, _⟩ := hK.out W hW2
          exact sBadLine p _ W w.heap.size hz'.out Ab As cb cs a0 a1 (Nat.lt_of_lt_of_le hsz1 hW2.size) (hP'.out W (hb0.trans (hW2.mono hb0.size))))).mono ?_
        rintro e W2 ⟨rfl, hb2⟩
        rw [g3'.out]
        have hb02 := hba.trans (hb2.mono hba.size)
        go_wp2_with fail
        go_roundw
        case rel =>
          refine ⟨k + 1, by omega, by go_num, fun j hj => ?_, hb02⟩
          rcases Nat.lt_succ_iff_lt_or_eq.1 hj with h | rfl
          · exact hall'.out j h
          · exact hf'.out
        case measure => simp [intOf]; omega
    · obtain rfl : k = s.orders.length := by omega
      have hrest := Lib.hid (rest_formed (all_of dOrder hall'.out))
      obtain ⟨⟨y0, y1⟩, x1, x2, x3, x4, x5, x6⟩ := hK.out wr hbw
      have hbz0 : w.heap.size + 1 < wr.heap.size := Nat.lt_of_lt_of_le hsz0 hbw.size
      have hbz1 : w.heap.size < wr.heap.size := by omega
      have hba : Below W0.heap.size W0 ((wr.alloc (.cells #[.func (.func 91) #[] #[.pointer (some ⟨w.heap.size + 1, 0, none⟩), .pointer (some ⟨w.heap.size, 0, none⟩)]] 112)).alloc (.cells #[.func (.func 92) #[] #[.pointer (some ⟨w.heap.size, 0, none⟩)]] 113)) := (hbw.alloc hbw.size _).alloc (by have := hbw.size; simp; omega) _
      have hbc : wr.heap.size + 1 < ((wr.alloc (.cells #[.func (.func 91) #[] #[.pointer (some ⟨w.heap.size + 1, 0, none⟩), .pointer (some ⟨w.heap.size, 0, none⟩)]] 112)).alloc (.cells #[.func (.func 92) #[] #[.pointer (some ⟨w.heap.size, 0, none⟩)]] 113)).heap.size := by simp
      have hz9 : ((wr.alloc (.cells #[.func (.func 91) #[] #[.pointer (some ⟨w.heap.size + 1, 0, none⟩), .pointer (some ⟨w.heap.size, 0, none⟩)]] 112)).alloc (.cells #[.func (.func 92) #[] #[.pointer (some ⟨w.heap.size, 0, none⟩)]] 113)).cell? ⟨wr.heap.size, 0, none⟩ = some (.func (.func 91) #[] #[.pointer (some ⟨w.heap.size + 1, 0, none⟩), .pointer (some ⟨w.heap.size, 0, none⟩)]) ∧
          ((wr.alloc (.cells #[.func (.func 91) #[] #[.pointer (some ⟨w.heap.size + 1, 0, none⟩), .pointer (some ⟨w.heap.size, 0, none⟩)]] 112)).alloc (.cells #[.func (.func 92) #[] #[.pointer (some ⟨w.heap.size, 0, none⟩)]] 113)).cell? ⟨wr.heap.size + 1, 0, none⟩ = some (.func (.func 92) #[] #[.pointer (some ⟨w.heap.size, 0, none⟩)]) := by simp
      go_wp2_with fail
      generalize hW1 : (wr.alloc (.cells #[.func (.func 91) #[] #[.pointer (some ⟨w.heap.size + 1, 0, none⟩), .pointer (some ⟨w.heap.size, 0, none⟩)]] 112)).alloc (.cells #[.func (.func 92) #[] #[.pointer (some ⟨w.heap.size, 0, none⟩)]] 113) = W1 at hba hbc hz9 ⊢
      have hz9' := Lib.hid hz9
      clear hW1 hz9 y0 y1 x1 x2 x3 x4 x5 x6
      have hB1 := hb0.trans (hba.mono hb0.size)
      refine (hdCheck _ _ s.holds (hH.out W1 hB1)).mono ?_
      rintro e W2 ⟨rfl, hb2⟩
      have hba2 := hba.trans (hb2.mono hba.size)
      have hB2 := hb0.trans (hba2.mono hb0.size)
      cases hok : holdsOk s.holds
      · have hc : checkHolds s.holds = 1 := by unfold checkHolds; rw [hok]; rfl
        have hfin := Lib.hid (show formed p s = false by rw [hrest.out, hok]; rfl)
        rw [hc]
        clear hc hok
        go_wp2_with fail
        go_ret
        exact ⟨ret_bool (by rw [hfin.out]), hB2⟩
      · have hc : checkHolds s.holds = 0 := check_ok0 hok
        have hn0 := Lib.hid (fun k (hk : k < s.holds.length) => (ok_key hok hk).1.1)
        have hr1 := Lib.hid (hrest.out.trans (by rw [hok, Bool.true_and]))
        rw [hc]
        clear hc hok
        obtain ⟨⟨y0, y1⟩, x1, x2, x3, x4, x5, x6⟩ := hK.out W2 hba2
        go_wp2_with fail
        clear y0 y1 x1 x2 x3 x4 x5 x6
        have hbc0 : wr.heap.size < W1.heap.size := by omega
        refine (containsFuncHold _ _ s.holds 94 #[.pointer (some ⟨wr.heap.size, 0, none⟩)] (fun x => !holdIn p s x) entersBadHold (hH.out W2 hB2) (fun j hj W hW => by
          have hW1 := hb2.trans (hW.mono hb2.size)
          have hW2 := hba2.trans (hW.mono hba2.size)
          obtain ⟨⟨a0, a1⟩, e1, _⟩ := hK.out W hW2
          have hBW := hb0.trans (hW2.mono hb0.size)
          exact sBadHold p s _ W wr.heap.size (w.heap.size + 1) w.heap.size A1 Ab c1 cb ((hW1.cell (p := ⟨wr.heap.size, 0, none⟩) hbc0).trans hz9'.out.1) (Nat.lt_of_lt_of_le hbc0 hW1.size) e1 a0 (Nat.lt_of_lt_of_le hsz0 hW2.size) (Nat.lt_of_lt_of_le hsz1 hW2.size)
            (hO.out W hBW) (hn0.out j hj) (by omega) hl3'.out)).mono ?_
        rintro e W3 ⟨rfl, hb3⟩
        have hba3 := hba2.trans (hb3.mono hba2.size)
        have hB3 := hb0.trans (hba3.mono hb0.size)
        cases hh : (s.holds.any fun x => !holdIn p s x)
        · have hr2 := Lib.hid (hr1.out.trans (by rw [hh, Bool.not_false, Bool.true_and]))
          obtain ⟨⟨y0, y1⟩, x1, x2, x3, x4, x5, x6⟩ := hK.out W3 hba3
          clear hh
          go_wp2_with fail
          clear y0 y1 x1 x2 x3 x4 x5 x6
          refine (containsFuncMove _ _ s.moves 96 #[.pointer (some ⟨wr.heap.size + 1, 0, none⟩)] (fun x => !moveOk p x) entersBadMove (hM.out W3 hB3) (fun j hj W hW => by
            have hb13 := hb2.trans (hb3.mono hb2.size)
            have hW1 := hb13.trans (hW.mono hb13.size)
            have hW3 := hba3.trans (hW.mono hba3.size)
            obtain ⟨⟨a0, a1⟩, e1, _⟩ := hK.out W hW3
            have hBW := hb0.trans (hW3.mono hb0.size)
            exact sBadMove p _ W (wr.heap.size + 1) w.heap.size Ab As cb cs ((hW1.cell (p := ⟨wr.heap.size + 1, 0, none⟩) hbc).trans hz9'.out.2) (Nat.lt_of_lt_of_le hbc hW1.size) a0 a1 (Nat.lt_of_lt_of_le hsz1 hW3.size) (hP'.out W hBW))).mono ?_
          rintro e W4 ⟨rfl, hb4⟩
          have hba4 := hba3.trans (hb4.mono hba3.size)
          have hB4 := hb0.trans (hba4.mono hb0.size)
          cases hmv : (s.moves.any fun x => !moveOk p x)
          · have hr3 := Lib.hid (hr2.out.trans (by rw [hmv, Bool.not_false, Bool.true_and]))
            obtain ⟨⟨y0, y1⟩, x1, x2, x3, x4, x5, x6⟩ := hK.out W4 hba4
            clear hmv
            go_wp2_with fail
            clear y0 y1 x1 x2 x3 x4 x5 x6
            refine (sSums _ _ _ p s.inn 0 (hP'.out W4 hB4) (hI.out W4 hB4) hz'.out).mono ?_
            rintro e W5 ⟨rfl, hb5⟩
            have hba5 := hba4.trans (hb5.mono hba4.size)
            have hB5 := hb0.trans (hba5.mono hb0.size)
            cases hq1 : sumsOk p s.inn 0
            · have hfin := Lib.hid (show formed p s = false by rw [hr3.out, hq1]; rfl)
              clear hq1
              go_wp2_with fail
              go_ret
              exact ⟨ret_bool (by rw [hfin.out]), hB5⟩
            · have hr4 := Lib.hid (hr3.out.trans (by rw [hq1, Bool.true_and]))
              obtain ⟨⟨y0, y1⟩, x1, x2, x3, x4, x5, x6⟩ := hK.out W5 hba5
              clear hq1
              go_wp2_with fail
              clear y0 y1 x1 x2 x3 x4 x5 x6
              refine (sSums _ _ _ p s.out 0 (hP'.out W5 hB5) (hU.out W5 hB5) hz'.out).mono ?_
              rintro e W6 ⟨rfl, hb6⟩
              have hba6 := hba5.trans (hb6.mono hba5.size)
              have hB6 := hb0.trans (hba6.mono hb0.size)
              cases hq2 : sumsOk p s.out 0
              · have hfin := Lib.hid (show formed p s = false by rw [hr4.out, hq2]; rfl)
                clear hq2
                go_wp2_with fail
                go_ret
                exact ⟨ret_bool (by rw [hfin.out]), hB6⟩
              · have hr5 := Lib.hid (hr4.out.trans (by rw [hq2, Bool.true_and]))
                obtain ⟨⟨y0, y1⟩, x1, x2, x3, x4, x5, x6⟩ := hK.out W6 hba6
                clear hq2
                go_wp2_with fail
                clear y0 y1 x1 x2 x3 x4 x5 x6
                refine (sSums _ _ _ p s.fixed (-1048576) (hP'.out W6 hB6) (hX.out W6 hB6) hz'.out).mono ?_
                rintro e W7 ⟨rfl, hb7⟩
                have hB7 := hB6.trans (hb7.mono hB6.size)
                go_wp2_with fail
                go_ret
                exact ⟨ret_bool (by rw [hr5.out]), hB7⟩
          · have hfin := Lib.hid (show formed p s = false by rw [hr2.out, hmv]; rfl)
            clear hmv
            go_wp2_with fail
            go_ret
            exact ⟨ret_bool (by rw [hfin.out]), hB4⟩
        · have hfin := Lib.hid (show formed p s = false by rw [hr1.out, hh]; rfl)
          clear hh
          go_wp2_with fail
          go_ret
          exact ⟨ret_bool (by rw [hfin.out]), hB3⟩
end Wh
namespace Wh
open Go Go.RowKit Go.Shelf Go.Proofs
attribute [local go_sem] run_indexAt_letter
theorem formed_no {p : Plan} {s : State} (h : formed p s = true → False) : formed p s = false := by
  cases hh : formed p s
  · rfl
  · exact (h hh).elim
theorem lineR_parts (p : Plan) (x : Line) : (isGood p x.good = false ∧ lineOk p x = false) ∨ (isGood p x.good = true ∧ within x.want 1 200 = false ∧ lineOk p x = false) ∨ (isGood p x.good = true ∧ within x.want 1 200 = true ∧ within x.got 0 x.want = false ∧ lineOk p x = false) ∨
    (isGood p x.good = true ∧ within x.want 1 200 = true ∧ within x.got 0 x.want = true ∧ within x.back 0 x.want = false ∧ lineOk p x = false) ∨ (isGood p x.good = true ∧ within x.want 1 200 = true ∧ within x.got 0 x.want = true ∧ within x.back 0 x.want = true ∧ lineOk p x = true) := by
  unfold lineOk
  cases isGood p x.good <;> cases within x.want 1 200 <;> cases within x.got 0 x.want <;> cases within x.back 0 x.want <;> simp
theorem moveR_parts (p : Plan) (x : Move) : (isGood p x.good = false ∧ moveOk p x = false) ∨ (isGood p x.good = true ∧ isBin p x.src = false ∧ moveOk p x = false) ∨ (isGood p x.good = true ∧ isBin p x.src = true ∧ isBin p x.dst = false ∧ moveOk p x = false) ∨
    (isGood p x.good = true ∧ isBin p x.src = true ∧ isBin p x.dst = true ∧ (x.src == x.dst) = true ∧ moveOk p x = false) ∨ (isGood p x.good = true ∧ isBin p x.src = true ∧ isBin p x.dst = true ∧ (x.src == x.dst) = false ∧ within x.n 1 200 = false ∧ moveOk p x = false) ∨
    (isGood p x.good = true ∧ isBin p x.src = true ∧ isBin p x.dst = true ∧ (x.src == x.dst) = false ∧ within x.n 1 200 = true ∧ moveOk p x = true) := by
  unfold moveOk
  cases isGood p x.good <;> cases isBin p x.src <;> cases isBin p x.dst <;> cases within x.n 1 200 <;> by_cases h : x.src = x.dst <;> simp [h]
theorem isBin_lt (p : Plan) {b : Int} (h0 : 0 ≤ b) : isBin p b = decide (b < (p.bins.length : Int)) := by
  rw [Bool.eq_iff_iff, isBin_iff, decide_eq_true_eq]
  omega
theorem sumsR_parts (p : Plan) (s : State) : s.inn.length ≠ p.sizes.length ∧ formed p s = false ∨ s.inn.length = p.sizes.length ∧ s.out.length ≠ p.sizes.length ∧ formed p s = false ∨ s.inn.length = p.sizes.length ∧ s.out.length = p.sizes.length ∧ s.fixed.length ≠ p.sizes.length ∧ formed p s = false ∨
    s.inn.length = p.sizes.length ∧ s.out.length = p.sizes.length ∧ s.fixed.length = p.sizes.length := by
  have h : formed p s = true → s.inn.length = p.sizes.length ∧ s.out.length = p.sizes.length ∧ s.fixed.length = p.sizes.length := fun h => by
    have h := formed_iff.1 h
    exact ⟨(sumsOk_iff.1 h.2.2.2.2.1).1, (sumsOk_iff.1 h.2.2.2.2.2.1).1, (sumsOk_iff.1 h.2.2.2.2.2.2).1⟩
  cases hf : formed p s
  · simp only [and_true]; omega
  · have := h hf; omega
def goodR (s : State) (g : Nat) : Bool := within (intAt s.inn g) 0 1048576 && within (intAt s.out g) 0 1048576 && within (intAt s.fixed g) (-1048576) 1048576
theorem goodR_parts (s : State) (g : Nat) : (within (intAt s.inn g) 0 1048576 = false ∧ goodR s g = false) ∨ (within (intAt s.inn g) 0 1048576 = true ∧ within (intAt s.out g) 0 1048576 = false ∧ goodR s g = false) ∨ (within (intAt s.inn g) 0 1048576 = true ∧ within (intAt s.out g) 0 1048576 = true ∧ within (intAt s.fixed g) (-1048576) 1048576 = false ∧ goodR s g = false) ∨
    (within (intAt s.inn g) 0 1048576 = true ∧ within (intAt s.out g) 0 1048576 = true ∧ within (intAt s.fixed g) (-1048576) 1048576 = true ∧ goodR s g = true) := by
  unfold goodR
  cases within (intAt s.inn g) 0 1048576 <;> cases within (intAt s.out g) 0 1048576 <;> cases within (intAt s.fixed g) (-1048576) 1048576 <;> simp
theorem formed_goodR {p : Plan} {s : State} (h : formed p s = true) {g : Nat} (hg : g < p.sizes.length) : goodR s g = true := by
  have h := formed_iff.1 h
  obtain ⟨i1, i2⟩ := sumsOk_iff.1 h.2.2.2.2.1
  obtain ⟨o1, o2⟩ := sumsOk_iff.1 h.2.2.2.2.2.1
  obtain ⟨f1, f2⟩ := sumsOk_iff.1 h.2.2.2.2.2.2
  unfold goodR
  rw [Bool.and_eq_true, Bool.and_eq_true]
  exact ⟨⟨all_at 0 i2 (by omega), all_at 0 o2 (by omega)⟩, all_at 0 f2 (by omega)⟩
theorem formed_of {p : Plan} {s : State} (h1 : s.orders.all (orderOk p) = true) (h2 : holdsOk s.holds = true) (h3 : s.holds.all (holdIn p s) = true) (h4 : s.moves.all (moveOk p) = true) (h5 : s.inn.length = p.sizes.length ∧ s.out.length = p.sizes.length ∧ s.fixed.length = p.sizes.length)
    (h6 : ∀ g, g < p.sizes.length → goodR s g = true) : formed p s = true := by
  have h : ∀ g, g < p.sizes.length → within (intAt s.inn g) 0 1048576 = true ∧ within (intAt s.out g) 0 1048576 = true ∧ within (intAt s.fixed g) (-1048576) 1048576 = true := fun g hg => by
    have := h6 g hg
    unfold goodR at this
    rw [Bool.and_eq_true, Bool.and_eq_true] at this
    exact ⟨this.1.1, this.1.2, this.2⟩
  exact formed_iff.2 ⟨h1, h2, h3, h4, sumsOk_iff.2 ⟨h5.1, all_of 0 fun g hg => (h g (by omega)).1⟩, sumsOk_iff.2 ⟨h5.2.1, all_of 0 fun g hg => (h g (by omega)).2.1⟩, sumsOk_iff.2 ⟨h5.2.2, all_of 0 fun g hg => (h g (by omega)).2.2⟩⟩

set_option maxHeartbeats 8000000 in
set_option maxRecDepth 100000 in
theorem rFormed (w : World) (v vs : Value) (p : Plan) (s : State) (hp : PlanV w w.heap.size v p) (hv : StateV w w.heap.size vs s) (hz : checkPlan p = 0) (h4 : s.orders.length ≤ 4) (h8 : s.moves.length ≤ 8) (hll3 : ∀ o, o < s.orders.length → (orderAt s.orders o).lines.length ≤ 1000) :
    Calls Try.prog 46 #[v, vs] w fun e w' => e = .returned (.bool (formed p s)) ∧ Below w.heap.size w w' := by
  have hP := hp
  obtain ⟨_, _, rfl, ⟨Ab, cb, rfl, hlb, hb⟩, ⟨As, cs, rfl, hls, hs⟩⟩ := hp
  have hS := hv
  obtain ⟨_, _, _, _, _, _, _, rfl, ⟨A0, c0, vs0, rfl, hl0, hm0, ha0, hr0⟩, ⟨A1, c1, vs1, rfl, hl1, hm1, ha1, hr1⟩, ⟨A2, c2, rfl, hl2, ha2⟩, ⟨A3, c3, rfl, hl3, ha3⟩, ⟨A4, c4, rfl, hl4, ha4⟩, ⟨A5, c5, rfl, hl5, ha5⟩, ⟨A6, c6, rfl, hl6, ha6⟩⟩ := hv
  have hcnt := right_counts hz
  have hb0 : Below w.heap.size w ((w.alloc (.cells #[.slice Ab p.bins.length cb, .slice As p.sizes.length cs] 25)).alloc (.cells #[.slice A0 s.on.length c0, .slice A1 s.orders.length c1, .slice A2 s.holds.length c2, .slice A3 s.moves.length c3, .slice A4 s.inn.length c4, .slice A5 s.out.length c5, .slice A6 s.fixed.length c6] 31)) := ((Below.refl _ _).alloc (Nat.le_refl _) _).alloc (by simp) _
  have hsz0 : w.heap.size + 1 < ((w.alloc (.cells #[.slice Ab p.bins.length cb, .slice As p.sizes.length cs] 25)).alloc (.cells #[.slice A0 s.on.length c0, .slice A1 s.orders.length c1, .slice A2 s.holds.length c2, .slice A3 s.moves.length c3, .slice A4 s.inn.length c4, .slice A5 s.out.length c5, .slice A6 s.fixed.length c6] 31)).heap.size := by simp
  have hz0 : (((w.alloc (.cells #[.slice Ab p.bins.length cb, .slice As p.sizes.length cs] 25)).alloc (.cells #[.slice A0 s.on.length c0, .slice A1 s.orders.length c1, .slice A2 s.holds.length c2, .slice A3 s.moves.length c3, .slice A4 s.inn.length c4, .slice A5 s.out.length c5, .slice A6 s.fixed.length c6] 31)).cell? ⟨w.heap.size, 0, none⟩ = some (.slice Ab p.bins.length cb) ∧ ((w.alloc (.cells #[.slice Ab p.bins.length cb, .slice As p.sizes.length cs] 25)).alloc (.cells #[.slice A0 s.on.length c0, .slice A1 s.orders.length c1, .slice A2 s.holds.length c2, .slice A3 s.moves.length c3, .slice A4 s.inn.length c4, .slice A5 s.out.length c5, .slice A6 s.fixed.length c6] 31)).cell? ⟨w.heap.size, 1, none⟩ = some (.slice As p.sizes.length cs)) ∧
      ((w.alloc (.cells #[.slice Ab p.bins.length cb, .slice As p.sizes.length cs] 25)).alloc (.cells #[.slice A0 s.on.length c0, .slice A1 s.orders.length c1, .slice A2 s.holds.length c2, .slice A3 s.moves.length c3, .slice A4 s.inn.length c4, .slice A5 s.out.length c5, .slice A6 s.fixed.length c6] 31)).cell? ⟨w.heap.size + 1, 1, none⟩ = some (.slice A1 s.orders.length c1) ∧ ((w.alloc (.cells #[.slice Ab p.bins.length cb, .slice As p.sizes.length cs] 25)).alloc (.cells #[.slice A0 s.on.length c0, .slice A1 s.orders.length c1, .slice A2 s.holds.length c2, .slice A3 s.moves.length c3, .slice A4 s.inn.length c4, .slice A5 s.out.length c5, .slice A6 s.fixed.length c6] 31)).cell? ⟨w.heap.size + 1, 2, none⟩ = some (.slice A2 s.holds.length c2) ∧ ((w.alloc (.cells #[.slice Ab p.bins.length cb, .slice As p.sizes.length cs] 25)).alloc (.cells #[.slice A0 s.on.length c0, .slice A1 s.orders.length c1, .slice A2 s.holds.length c2, .slice A3 s.moves.length c3, .slice A4 s.inn.length c4, .slice A5 s.out.length c5, .slice A6 s.fixed.length c6] 31)).cell? ⟨w.heap.size + 1, 3, none⟩ = some (.slice A3 s.moves.length c3) ∧
      ((w.alloc (.cells #[.slice Ab p.bins.length cb, .slice As p.sizes.length cs] 25)).alloc (.cells #[.slice A0 s.on.length c0, .slice A1 s.orders.length c1, .slice A2 s.holds.length c2, .slice A3 s.moves.length c3, .slice A4 s.inn.length c4, .slice A5 s.out.length c5, .slice A6 s.fixed.length c6] 31)).cell? ⟨w.heap.size + 1, 4, none⟩ = some (.slice A4 s.inn.length c4) ∧ ((w.alloc (.cells #[.slice Ab p.bins.length cb, .slice As p.sizes.length cs] 25)).alloc (.cells #[.slice A0 s.on.length c0, .slice A1 s.orders.length c1, .slice A2 s.holds.length c2, .slice A3 s.moves.length c3, .slice A4 s.inn.length c4, .slice A5 s.out.length c5, .slice A6 s.fixed.length c6] 31)).cell? ⟨w.heap.size + 1, 5, none⟩ = some (.slice A5 s.out.length c5) ∧ ((w.alloc (.cells #[.slice Ab p.bins.length cb, .slice As p.sizes.length cs] 25)).alloc (.cells #[.slice A0 s.on.length c0, .slice A1 s.orders.length c1, .slice A2 s.holds.length c2, .slice A3 s.moves.length c3, .slice A4 s.inn.length c4, .slice A5 s.out.length c5, .slice A6 s.fixed.length c6] 31)).cell? ⟨w.heap.size + 1, 6, none⟩ = some (.slice A6 s.fixed.length c6) := by simp
  have hO := Lib.hid (fun W (hW : Below w.heap.size w W) => (SlOrders.up ⟨A1, c1, vs1, rfl, hl1, hm1, ha1, hr1⟩ hW hW.size : SlOrders W W.heap.size (.slice A1 s.orders.length c1) s.orders))
  have hH := Lib.hid (fun W (hW : Below w.heap.size w W) => (Sl.up ⟨A2, c2, rfl, hl2, ha2⟩ hW hW.size : Sl cHold W W.heap.size (.slice A2 s.holds.length c2) s.holds))
  have hM := Lib.hid (fun W (hW : Below w.heap.size w W) => (Sl.up ⟨A3, c3, rfl, hl3, ha3⟩ hW hW.size : Sl cMove W W.heap.size (.slice A3 s.moves.length c3) s.moves))
  have hI := Lib.hid (fun W (hW : Below w.heap.size w W) => (Sl.up ⟨A4, c4, rfl, hl4, ha4⟩ hW hW.size : Sl cInt W W.heap.size (.slice A4 s.inn.length c4) s.inn))
  have hU := Lib.hid (fun W (hW : Below w.heap.size w W) => (Sl.up ⟨A5, c5, rfl, hl5, ha5⟩ hW hW.size : Sl cInt W W.heap.size (.slice A5 s.out.length c5) s.out))
  have hX := Lib.hid (fun W (hW : Below w.heap.size w W) => (Sl.up ⟨A6, c6, rfl, hl6, ha6⟩ hW hW.size : Sl cInt W W.heap.size (.slice A6 s.fixed.length c6) s.fixed))
  have hP' := Lib.hid (fun W (hW : Below w.heap.size w W) => hP.up hW hW.size)
  have hl3' := Lib.hid hll3
  clear hz hll3 hP hS
  go_enter Try.func46, Try.ntmps46
  go_wp2_with fail
  generalize hW0 : (w.alloc (.cells #[.slice Ab p.bins.length cb, .slice As p.sizes.length cs] 25)).alloc (.cells #[.slice A0 s.on.length c0, .slice A1 s.orders.length c1, .slice A2 s.holds.length c2, .slice A3 s.moves.length c3, .slice A4 s.inn.length c4, .slice A5 s.out.length c5, .slice A6 s.fixed.length c6] 31) = W0 at hb0 hsz0 hz0 ⊢
  have hz0' := Lib.hid hz0
  clear hW0 hz0
  have hsz1 : w.heap.size < W0.heap.size := by omega
  have hK := Lib.hid (fun W (hW : Below W0.heap.size W0 W) => And.intro (And.intro ((hW.cell (p := ⟨w.heap.size, 0, none⟩) hsz1).trans hz0'.out.1.1) ((hW.cell (p := ⟨w.heap.size, 1, none⟩) hsz1).trans hz0'.out.1.2))
    (And.intro ((hW.cell (p := ⟨w.heap.size + 1, 1, none⟩) hsz0).trans hz0'.out.2.1) (And.intro ((hW.cell (p := ⟨w.heap.size + 1, 2, none⟩) hsz0).trans hz0'.out.2.2.1) (And.intro ((hW.cell (p := ⟨w.heap.size + 1, 3, none⟩) hsz0).trans hz0'.out.2.2.2.1)
    (And.intro ((hW.cell (p := ⟨w.heap.size + 1, 4, none⟩) hsz0).trans hz0'.out.2.2.2.2.1) (And.intro ((hW.cell (p := ⟨w.heap.size + 1, 5, none⟩) hsz0).trans hz0'.out.2.2.2.2.2.1) ((hW.cell (p := ⟨w.heap.size + 1, 6, none⟩) hsz0).trans hz0'.out.2.2.2.2.2.2)))))))
  go_loopw [5, 6, 7] (fun i _ _ wr => ∃ k : Nat, k ≤ s.orders.length ∧ i = .int .i64 k ∧ (∀ j, j < k → orderOk p (orderAt s.orders j) = true) ∧ Below W0.heap.size W0 wr) (fun i _ _ _ => s.orders.length - (intOf i).toNat)
  case atStart => exact ⟨0, Nat.zero_le _, rfl, fun j hj => by omega, Below.refl _ _⟩
  case round =>
    obtain ⟨k, hk, rfl, hall, hbw⟩ := hrel
    have hall' := Lib.hid hall
    clear hall
    have hB := hb0.trans (hbw.mono hb0.size)
    obtain ⟨⟨y0, y1⟩, x1, x2, x3, x4, x5, x6⟩ := hK.out wr hbw
    have hbz0 : w.heap.size + 1 < wr.heap.size := Nat.lt_of_lt_of_le hsz0 hbw.size
    by_cases hlt : k < s.orders.length
    · obtain ⟨A', c', hok1, hAb1, d0, d1, hsl⟩ := (hO.out wr hB).order hlt
      have hl33 := hl3'.out k hlt
      cases hki : within (orderAt s.orders k).kind 0 2
      · have hfin := Lib.hid (show formed p s = false from formed_no fun h => by
          have := all_at dOrder (formed_iff.1 h).1 hlt
          change orderOk p (orderAt s.orders k) = true at this
          unfold orderOk at this
          rw [hki] at this; cases this)
        go_wp2_with (go_at_call 45; refine (rWithin _ _ _ _).mono ?_; rintro e w' ⟨rfl, rfl⟩)
        go_ret
        exact ⟨ret_bool (by rw [hfin.out]), hB⟩
      · have hki' := Lib.hid hki
        go_wp2_with (go_at_call 45; refine (rWithin _ _ _ _).mono ?_; rintro e w' ⟨rfl, rfl⟩)
        go_loopw [6, 7] (fun i _ wr => ∃ m : Nat, m ≤ (orderAt s.orders k).lines.length ∧ i = .int .i64 m ∧ (∀ j, j < m → lineOk p (lineAt (orderAt s.orders k).lines j) = true) ∧ Below W0.heap.size W0 wr) (fun i _ _ => (orderAt s.orders k).lines.length - (intOf i).toNat)
        case atStart => exact ⟨0, Nat.zero_le _, rfl, fun j hj => by omega, hbw⟩
        case round =>
          clear hbw hB y0 y1 x1 x2 x3 x4 x5 x6 hbz0 hok1 hAb1 d0 d1 hsl
          obtain ⟨m, hm, rfl, hallm, hbw⟩ := hrel
          have hallm' := Lib.hid hallm
          clear hallm
          have hB := hb0.trans (hbw.mono hb0.size)
          obtain ⟨⟨y0, y1⟩, x1, x2, x3, x4, x5, x6⟩ := hK.out wr hbw
          have hbz0 : w.heap.size + 1 < wr.heap.size := Nat.lt_of_lt_of_le hsz0 hbw.size
          have hbz1 : w.heap.size < wr.heap.size := by omega
          obtain ⟨A', c', hok1, hAb1, d0, d1, hsl⟩ := (hO.out wr hB).order hlt
          by_cases hml : m < (orderAt s.orders k).lines.length
          · obtain ⟨hok2, hAb2, e0, e1, e2, e3⟩ := hsl.at_.line hml
            have hba : Below W0.heap.size W0 (wr.alloc (.cells #[.int .i64 (lineAt (orderAt s.orders k).lines m).good, .int .i64 (lineAt (orderAt s.orders k).lines m).want, .int .i64 (lineAt (orderAt s.orders k).lines m).got, .int .i64 (lineAt (orderAt s.orders k).lines m).back] 75)) := hbw.alloc hbw.size _
            have hBa := hb0.trans (hba.mono hb0.size)
            rcases lineR_parts p (lineAt (orderAt s.orders k).lines m) with ⟨g1, hf⟩ | ⟨g1, g2, hf⟩ | ⟨g1, g2, g3, hf⟩ | ⟨g1, g2, g3, g4, hf⟩ | ⟨g1, g2, g3, g4, hf⟩
            rotate_left 4
            focus
              have hf' := Lib.hid hf
              clear hf
              go_wp2_with (first | (go_at_call 45; refine (rWithin _ _ _ _).mono ?_; rintro e w' ⟨rfl, rfl⟩) | (go_at_call 64; refine (rIsGood _ _ p _ (hP'.out _ hBa) (by omega)).mono ?_; rintro e W1 ⟨rfl, hb1⟩; obtain ⟨hc1, hf1⟩ := bcell hb1; have hz1 := hb1.size))
              go_roundw
              case rel =>
                refine ⟨m + 1, by omega, by go_num, fun j hj => ?_, hba.trans (hb1.mono hba.size)⟩
                rcases Nat.lt_succ_iff_lt_or_eq.1 hj with h | rfl
                · exact hallm'.out j h
                · exact hf'.out
              case measure => simp [intOf]; omega
            all_goals
              have hfin := Lib.hid (show formed p s = false from formed_no fun h => by
                have h1 := all_at dOrder (formed_iff.1 h).1 hlt
                have h2 : lineOk p (lineAt (orderAt s.orders k).lines m) = true := all_at dLine (orderOk_iff.1 h1).2 hml
                rw [hf] at h2; cases h2)
              clear hf
              go_wp2_with (first | (go_at_call 45; refine (rWithin _ _ _ _).mono ?_; rintro e w' ⟨rfl, rfl⟩) | (go_at_call 64; refine (rIsGood _ _ p _ (hP'.out _ hBa) (by omega)).mono ?_; rintro e W1 ⟨rfl, hb1⟩; obtain ⟨hc1, hf1⟩ := bcell hb1; have hz1 := hb1.size))
              go_ret
              exact ⟨ret_bool (by rw [hfin.out]), hBa.trans (hb1.mono hBa.size)⟩
          · obtain rfl : m = (orderAt s.orders k).lines.length := by omega
            go_wp2_with fail
            go_roundw
            case rel =>
              refine ⟨k + 1, by omega, by go_num, fun j hj => ?_, hbw⟩
              rcases Nat.lt_succ_iff_lt_or_eq.1 hj with h | rfl
              · exact hall'.out j h
              · exact orderOk_iff.2 ⟨within_iff.1 hki'.out, all_of dLine hallm'.out⟩
            case measure => simp [intOf]; omega
    · obtain rfl : k = s.orders.length := by omega
      have hord := Lib.hid (all_of dOrder hall'.out)
      clear hall'
      go_wp2_with fail
      refine (rCheckHolds _ _ s.holds (hH.out wr hB)).mono ?_
      rintro e W1 ⟨rfl, hb1⟩
      have hba := hbw.trans (hb1.mono hbw.size)
      have hBa := hb0.trans (hba.mono hb0.size)
      clear y0 y1 x1 x2 x3 x4 x5 x6 hbz0
      obtain ⟨⟨y0, y1⟩, x1, x2, x3, x4, x5, x6⟩ := hK.out W1 hba
      cases hok : holdsOk s.holds
      · have hc : checkHolds s.holds = 1 := by unfold checkHolds; rw [hok]; rfl
        have hfin := Lib.hid (show formed p s = false from formed_no fun h => by
          have := (formed_iff.1 h).2.1
          rw [hok] at this; cases this)
        rw [hc]
        clear hc hok
        go_wp2_with fail
        go_ret
        exact ⟨ret_bool (by rw [hfin.out]), hBa⟩
      have hc : checkHolds s.holds = 0 := by unfold checkHolds; rw [hok]; rfl
      have hl72 := ok_len72 hok
      have hok' := Lib.hid hok
      rw [hc]
      clear hc hok
      go_wp2_with fail
      go_loopw [8, 9] (fun i _ wr => ∃ m : Nat, m ≤ s.holds.length ∧ i = .int .i64 m ∧ (∀ j, j < m → holdIn p s (hold s.holds j) = true) ∧ Below W0.heap.size W0 wr) (fun i _ _ => s.holds.length - (intOf i).toNat)
      case atStart => exact ⟨0, Nat.zero_le _, rfl, fun j hj => by omega, hba⟩
      case round =>
        clear hbw hB y0 y1 x1 x2 x3 x4 x5 x6 hb1 hba hBa
        obtain ⟨m, hm, rfl, hallm, hbw⟩ := hrel
        have hallm' := Lib.hid hallm
        clear hallm
        have hB := hb0.trans (hbw.mono hb0.size)
        obtain ⟨⟨y0, y1⟩, x1, x2, x3, x4, x5, x6⟩ := hK.out wr hbw
        have hbz0 : w.heap.size + 1 < wr.heap.size := Nat.lt_of_lt_of_le hsz0 hbw.size
        have hbz1 : w.heap.size < wr.heap.size := by omega
        by_cases hml : m < s.holds.length
        · obtain ⟨hok2, hAb2, e0, e1, e2, e3⟩ := (hH.out wr hB).at_.hold hml
          have hkey := ok_key hok'.out hml
          have hba : Below W0.heap.size W0 (wr.alloc (.cells #[.int .i64 (hold s.holds m).order, .int .i64 (hold s.holds m).line, .int .i64 (hold s.holds m).bin, .int .i64 (hold s.holds m).n] 87)) := hbw.alloc hbw.size _
          have hBa := hb0.trans (hba.mono hb0.size)
          have hlW : wr.heap.size < (wr.alloc (.cells #[.int .i64 (hold s.holds m).order, .int .i64 (hold s.holds m).line, .int .i64 (hold s.holds m).bin, .int .i64 (hold s.holds m).n] 87)).heap.size := by simp
          have q0 := fun o d os => cells_wld (w := wr.alloc (.cells #[.int .i64 (hold s.holds m).order, .int .i64 (hold s.holds m).line, .int .i64 (hold s.holds m).bin, .int .i64 (hold s.holds m).n] 87)) (b := w.heap.size) (by simp; omega) o d os
          have q1 := fun o d os => cells_wld (w := wr.alloc (.cells #[.int .i64 (hold s.holds m).order, .int .i64 (hold s.holds m).line, .int .i64 (hold s.holds m).bin, .int .i64 (hold s.holds m).n] 87)) (b := w.heap.size + 1) (by simp; omega) o d os
          have q2 := fun o d os => cells_wld (w := wr.alloc (.cells #[.int .i64 (hold s.holds m).order, .int .i64 (hold s.holds m).line, .int .i64 (hold s.holds m).bin, .int .i64 (hold s.holds m).n] 87)) (b := wr.heap.size) hlW o d os
          unfold keyOk at hkey
          obtain ⟨⟨k1, k2⟩, ⟨k3, k4⟩, ⟨k5, k6⟩⟩ := hkey
          have hbin := isBin_lt p k5
          have hP2 := Lib.hid (fun d os => hP'.out _ (hBa.trans ((below_wld (wr.alloc (.cells #[.int .i64 (hold s.holds m).order, .int .i64 (hold s.holds m).line, .int .i64 (hold s.holds m).bin, .int .i64 (hold s.holds m).n] 87)) d os).mono hBa.size)))
          rcases holdIn_parts p s (hold s.holds m) with ⟨g1, hf⟩ | ⟨g1, g2, hf⟩ | ⟨g1, g2, g3, hf⟩ | ⟨g1, g2, g3, hf⟩
          · have d1 : decide ((hold s.holds m).order < (s.orders.length : Int)) = false := by simpa using g1
            have d1' : decide ((s.orders.length : Int) ≤ (hold s.holds m).order) = true := by simpa using g1
            have hfin := Lib.hid (show formed p s = false from formed_no fun h => by
              have h2 : holdIn p s (hold s.holds m) = true := all_at dHold (formed_iff.1 h).2.2.1 hml
              rw [hf] at h2; cases h2)
            clear hf hbin
            go_wp2_with fail
            refine wp_region_wld (by kernel_rfl) (by kernel_rfl) ?_
            repeat (go_big_quiet_step ((go_at_call 63; refine calls_wld (rIsBin _ _ p _ (hP2.out _ _) (by omega)))))
            refine wpQuiet_nil ?_
            intro W2 hw'
            have hb2 := below_of_cls hw'
            clear hw'
            go_wp2_with fail
            go_ret
            exact ⟨ret_bool (by rw [hfin.out]), hBa.trans (hb2.mono hBa.size)⟩
          · have hol : (hold s.holds m).order.toNat < s.orders.length := by omega
            obtain ⟨A', c', hok1, hAb1, d0, d1, hsl⟩ := (hO.out wr hB).order hol
            have hll := hl3'.out _ hol
            have q3 := fun o d os => cells_wld (w := wr.alloc (.cells #[.int .i64 (hold s.holds m).order, .int .i64 (hold s.holds m).line, .int .i64 (hold s.holds m).bin, .int .i64 (hold s.holds m).n] 87)) (b := ablk A1) (by simp; omega) o d os
            unfold State.order at g2
            have d1 : decide ((hold s.holds m).order < (s.orders.length : Int)) = true := by simpa using g1
            have d1' : decide ((s.orders.length : Int) ≤ (hold s.holds m).order) = false := by simpa using g1
            have d2 : decide ((hold s.holds m).line < ((orderAt s.orders (hold s.holds m).order.toNat).lines.length : Int)) = false := by simpa using g2
            have d2' : decide (((orderAt s.orders (hold s.holds m).order.toNat).lines.length : Int) ≤ (hold s.holds m).line) = true := by simpa using g2
            have hfin := Lib.hid (show formed p s = false from formed_no fun h => by
              have h2 : holdIn p s (hold s.holds m) = true := all_at dHold (formed_iff.1 h).2.2.1 hml
              rw [hf] at h2; cases h2)
            clear hf hbin
            go_wp2_with fail
            refine wp_region_wld (by kernel_rfl) (by kernel_rfl) ?_
            repeat (go_big_quiet_step ((go_at_call 63; refine calls_wld (rIsBin _ _ p _ (hP2.out _ _) (by omega)))))
            refine wpQuiet_nil ?_
            intro W2 hw'
            have hb2 := below_of_cls hw'
            clear hw'
            go_wp2_with fail
            go_ret
            exact ⟨ret_bool (by rw [hfin.out]), hBa.trans (hb2.mono hBa.size)⟩
          · have hol : (hold s.holds m).order.toNat < s.orders.length := by omega
            obtain ⟨A', c', hok1, hAb1, d0, d1, hsl⟩ := (hO.out wr hB).order hol
            have hll := hl3'.out _ hol
            have q3 := fun o d os => cells_wld (w := wr.alloc (.cells #[.int .i64 (hold s.holds m).order, .int .i64 (hold s.holds m).line, .int .i64 (hold s.holds m).bin, .int .i64 (hold s.holds m).n] 87)) (b := ablk A1) (by simp; omega) o d os
            unfold State.order at g2
            have d1 : decide ((hold s.holds m).order < (s.orders.length : Int)) = true := by simpa using g1
            have d1' : decide ((s.orders.length : Int) ≤ (hold s.holds m).order) = false := by simpa using g1
            have d2 : decide ((hold s.holds m).line < ((orderAt s.orders (hold s.holds m).order.toNat).lines.length : Int)) = true := by simpa using g2
            have d2' : decide (((orderAt s.orders (hold s.holds m).order.toNat).lines.length : Int) ≤ (hold s.holds m).line) = false := by simpa using g2
            have hbin2 : isBin p (hold s.holds m).bin = false := by rw [hbin]; simpa using g3
            have hfin := Lib.hid (show formed p s = false from formed_no fun h => by
              have h2 : holdIn p s (hold s.holds m) = true := all_at dHold (formed_iff.1 h).2.2.1 hml
              rw [hf] at h2; cases h2)
            clear hf hbin
            go_wp2_with fail
            refine wp_region_wld (by kernel_rfl) (by kernel_rfl) ?_
            repeat (go_big_quiet_step ((go_at_call 63; refine calls_wld (rIsBin _ _ p _ (hP2.out _ _) (by omega)))))
            refine wpQuiet_nil ?_
            intro W2 hw'
            have hb2 := below_of_cls hw'
            clear hw'
            go_wp2_with fail
            go_ret
            exact ⟨ret_bool (by rw [hfin.out]), hBa.trans (hb2.mono hBa.size)⟩
          · have hol : (hold s.holds m).order.toNat < s.orders.length := by omega
            obtain ⟨A', c', hok1, hAb1, d0, d1, hsl⟩ := (hO.out wr hB).order hol
            have hll := hl3'.out _ hol
            have q3 := fun o d os => cells_wld (w := wr.alloc (.cells #[.int .i64 (hold s.holds m).order, .int .i64 (hold s.holds m).line, .int .i64 (hold s.holds m).bin, .int .i64 (hold s.holds m).n] 87)) (b := ablk A1) (by simp; omega) o d os
            unfold State.order at g2
            have d1 : decide ((hold s.holds m).order < (s.orders.length : Int)) = true := by simpa using g1
            have d1' : decide ((s.orders.length : Int) ≤ (hold s.holds m).order) = false := by simpa using g1
            have d2 : decide ((hold s.holds m).line < ((orderAt s.orders (hold s.holds m).order.toNat).lines.length : Int)) = true := by simpa using g2
            have d2' : decide (((orderAt s.orders (hold s.holds m).order.toNat).lines.length : Int) ≤ (hold s.holds m).line) = false := by simpa using g2
            have hbin2 : isBin p (hold s.holds m).bin = true := by rw [hbin]; simpa using g3
            have hf' := Lib.hid hf
            clear hf hbin
            go_wp2_with fail
            refine wp_region_wld (by kernel_rfl) (by kernel_rfl) ?_
            repeat (go_big_quiet_step ((go_at_call 63; refine calls_wld (rIsBin _ _ p _ (hP2.out _ _) (by omega)))))
            refine wpQuiet_nil ?_
            intro W2 hw'
            have hb2 := below_of_cls hw'
            clear hw'
            go_wp2_with fail
            go_roundw
            case rel =>
              refine ⟨m + 1, by omega, by go_num, fun j hj => ?_, hba.trans (hb2.mono hba.size)⟩
              rcases Nat.lt_succ_iff_lt_or_eq.1 hj with h | rfl
              · exact hallm'.out j h
              · exact hf'.out
            case measure => simp [intOf]; omega
        · obtain rfl : m = s.holds.length := by omega
          have hhin := Lib.hid (all_of dHold hallm'.out)
          clear hallm'
          go_wp2_with fail
          go_loopw [10, 11] (fun i _ wr => ∃ m : Nat, m ≤ s.moves.length ∧ i = .int .i64 m ∧ (∀ j, j < m → moveOk p (moveAt s.moves j) = true) ∧ Below W0.heap.size W0 wr) (fun i _ _ => s.moves.length - (intOf i).toNat)
          case atStart => exact ⟨0, Nat.zero_le _, rfl, fun j hj => by omega, hbw⟩
          case round =>
            clear hbw hB y0 y1 x1 x2 x3 x4 x5 x6 hbz0 hbz1
            obtain ⟨m, hm, rfl, hallm, hbw⟩ := hrel
            have hallm' := Lib.hid hallm
            clear hallm
            have hB := hb0.trans (hbw.mono hb0.size)
            obtain ⟨⟨y0, y1⟩, x1, x2, x3, x4, x5, x6⟩ := hK.out wr hbw
            have hbz0 : w.heap.size + 1 < wr.heap.size := Nat.lt_of_lt_of_le hsz0 hbw.size
            have hbz1 : w.heap.size < wr.heap.size := by omega
            by_cases hml : m < s.moves.length
            · obtain ⟨hok2, hAb2, e0, e1, e2, e3⟩ := (hM.out wr hB).at_.move hml
              have hba : Below W0.heap.size W0 (wr.alloc (.cells #[.int .i64 (moveAt s.moves m).good, .int .i64 (moveAt s.moves m).src, .int .i64 (moveAt s.moves m).dst, .int .i64 (moveAt s.moves m).n] 92)) := hbw.alloc hbw.size _
              have hBa := hb0.trans (hba.mono hb0.size)
              have hlW : wr.heap.size < (wr.alloc (.cells #[.int .i64 (moveAt s.moves m).good, .int .i64 (moveAt s.moves m).src, .int .i64 (moveAt s.moves m).dst, .int .i64 (moveAt s.moves m).n] 92)).heap.size := by simp
              rcases moveR_parts p (moveAt s.moves m) with ⟨g1, hf⟩ | ⟨g1, g2, hf⟩ | ⟨g1, g2, g3, hf⟩ | ⟨g1, g2, g3, g4, hf⟩ | ⟨g1, g2, g3, g4, g5, hf⟩ | ⟨g1, g2, g3, g4, g5, hf⟩
              rotate_left 5
              focus
                have hf' := Lib.hid hf
                clear hf
                go_wp2_with fail
                refine (rIsGood _ _ p _ (hP'.out _ hBa) (by omega)).mono ?_
                rintro e W1 ⟨rfl, hb1⟩
                obtain ⟨uc1, uf1⟩ := bcell hb1
                have hs1 := hb1.size
                have ht1 : w.heap.size < W1.heap.size := by omega
                have ht1' : wr.heap.size < W1.heap.size := by omega
                have hBb := hBa.trans (hb1.mono hBa.size)
                go_wp2_with fail
                refine (rIsBin _ _ p _ (hP'.out _ hBb) (by omega)).mono ?_
                rintro e W2 ⟨rfl, hb2⟩
                obtain ⟨uc2, uf2⟩ := bcell hb2
                have hs2 := hb2.size
                have ht2 : w.heap.size < W2.heap.size := by omega
                have ht2' : wr.heap.size < W2.heap.size := by omega
                have hBc := hBb.trans (hb2.mono hBb.size)
                go_wp2_with fail
                refine (rIsBin _ _ p _ (hP'.out _ hBc) (by omega)).mono ?_
                rintro e W3 ⟨rfl, hb3⟩
                obtain ⟨uc3, uf3⟩ := bcell hb3
                have hs3 := hb3.size
                have ht3 : w.heap.size < W3.heap.size := by omega
                have ht3' : wr.heap.size < W3.heap.size := by omega
                go_wp2_with (go_at_call 45; refine (rWithin _ _ _ _).mono ?_; rintro e w' ⟨rfl, rfl⟩)
                go_roundw
                case rel =>
                  refine ⟨m + 1, by omega, by go_num, fun j hj => ?_, (hba.trans (hb1.mono hba.size)).trans ((hb2.trans (hb3.mono hb2.size)).mono (hba.trans (hb1.mono hba.size)).size)⟩
                  rcases Nat.lt_succ_iff_lt_or_eq.1 hj with h | rfl
                  · exact hallm'.out j h
                  · exact hf'.out
                case measure => simp [intOf]; omega
              · have hfin := Lib.hid (show formed p s = false from formed_no fun h => by
                  have h2 : moveOk p (moveAt s.moves m) = true := all_at dMove (formed_iff.1 h).2.2.2.1 hml
                  rw [hf] at h2; cases h2)
                clear hf
                go_wp2_with fail
                refine (rIsGood _ _ p _ (hP'.out _ hBa) (by omega)).mono ?_
                rintro e W1 ⟨rfl, hb1⟩
                obtain ⟨uc1, uf1⟩ := bcell hb1
                have hs1 := hb1.size
                have ht1 : w.heap.size < W1.heap.size := by omega
                have ht1' : wr.heap.size < W1.heap.size := by omega
                have hBb := hBa.trans (hb1.mono hBa.size)
                go_wp2_with fail
                go_ret
                exact ⟨ret_bool (by rw [hfin.out]), hBb⟩
              · have hfin := Lib.hid (show formed p s = false from formed_no fun h => by
                  have h2 : moveOk p (moveAt s.moves m) = true := all_at dMove (formed_iff.1 h).2.2.2.1 hml
                  rw [hf] at h2; cases h2)
                clear hf
                go_wp2_with fail
                refine (rIsGood _ _ p _ (hP'.out _ hBa) (by omega)).mono ?_
                rintro e W1 ⟨rfl, hb1⟩
                obtain ⟨uc1, uf1⟩ := bcell hb1
                have hs1 := hb1.size
                have ht1 : w.heap.size < W1.heap.size := by omega
                have ht1' : wr.heap.size < W1.heap.size := by omega
                have hBb := hBa.trans (hb1.mono hBa.size)
                go_wp2_with fail
                refine (rIsBin _ _ p _ (hP'.out _ hBb) (by omega)).mono ?_
                rintro e W2 ⟨rfl, hb2⟩
                obtain ⟨uc2, uf2⟩ := bcell hb2
                have hs2 := hb2.size
                have ht2 : w.heap.size < W2.heap.size := by omega
                have ht2' : wr.heap.size < W2.heap.size := by omega
                have hBc := hBb.trans (hb2.mono hBb.size)
                go_wp2_with fail
                go_ret
                exact ⟨ret_bool (by rw [hfin.out]), hBc⟩
              · have hfin := Lib.hid (show formed p s = false from formed_no fun h => by
                  have h2 : moveOk p (moveAt s.moves m) = true := all_at dMove (formed_iff.1 h).2.2.2.1 hml
                  rw [hf] at h2; cases h2)
                clear hf
                go_wp2_with fail
                refine (rIsGood _ _ p _ (hP'.out _ hBa) (by omega)).mono ?_
                rintro e W1 ⟨rfl, hb1⟩
                obtain ⟨uc1, uf1⟩ := bcell hb1
                have hs1 := hb1.size
                have ht1 : w.heap.size < W1.heap.size := by omega
                have ht1' : wr.heap.size < W1.heap.size := by omega
                have hBb := hBa.trans (hb1.mono hBa.size)
                go_wp2_with fail
                refine (rIsBin _ _ p _ (hP'.out _ hBb) (by omega)).mono ?_
                rintro e W2 ⟨rfl, hb2⟩
                obtain ⟨uc2, uf2⟩ := bcell hb2
                have hs2 := hb2.size
                have ht2 : w.heap.size < W2.heap.size := by omega
                have ht2' : wr.heap.size < W2.heap.size := by omega
                have hBc := hBb.trans (hb2.mono hBb.size)
                go_wp2_with fail
                refine (rIsBin _ _ p _ (hP'.out _ hBc) (by omega)).mono ?_
                rintro e W3 ⟨rfl, hb3⟩
                obtain ⟨uc3, uf3⟩ := bcell hb3
                have hs3 := hb3.size
                have ht3 : w.heap.size < W3.heap.size := by omega
                have ht3' : wr.heap.size < W3.heap.size := by omega
                have hBd := hBc.trans (hb3.mono hBc.size)
                go_wp2_with fail
                go_ret
                exact ⟨ret_bool (by rw [hfin.out]), hBd⟩
              · have hfin := Lib.hid (show formed p s = false from formed_no fun h => by
                  have h2 : moveOk p (moveAt s.moves m) = true := all_at dMove (formed_iff.1 h).2.2.2.1 hml
                  rw [hf] at h2; cases h2)
                clear hf
                go_wp2_with fail
                refine (rIsGood _ _ p _ (hP'.out _ hBa) (by omega)).mono ?_
                rintro e W1 ⟨rfl, hb1⟩
                obtain ⟨uc1, uf1⟩ := bcell hb1
                have hs1 := hb1.size
                have ht1 : w.heap.size < W1.heap.size := by omega
                have ht1' : wr.heap.size < W1.heap.size := by omega
                have hBb := hBa.trans (hb1.mono hBa.size)
                go_wp2_with fail
                refine (rIsBin _ _ p _ (hP'.out _ hBb) (by omega)).mono ?_
                rintro e W2 ⟨rfl, hb2⟩
                obtain ⟨uc2, uf2⟩ := bcell hb2
                have hs2 := hb2.size
                have ht2 : w.heap.size < W2.heap.size := by omega
                have ht2' : wr.heap.size < W2.heap.size := by omega
                have hBc := hBb.trans (hb2.mono hBb.size)
                go_wp2_with fail
                refine (rIsBin _ _ p _ (hP'.out _ hBc) (by omega)).mono ?_
                rintro e W3 ⟨rfl, hb3⟩
                obtain ⟨uc3, uf3⟩ := bcell hb3
                have hs3 := hb3.size
                have ht3 : w.heap.size < W3.heap.size := by omega
                have ht3' : wr.heap.size < W3.heap.size := by omega
                have hBd := hBc.trans (hb3.mono hBc.size)
                go_wp2_with fail
                go_ret
                exact ⟨ret_bool (by rw [hfin.out]), hBd⟩
              · have hfin := Lib.hid (show formed p s = false from formed_no fun h => by
                  have h2 : moveOk p (moveAt s.moves m) = true := all_at dMove (formed_iff.1 h).2.2.2.1 hml
                  rw [hf] at h2; cases h2)
                clear hf
                go_wp2_with fail
                refine (rIsGood _ _ p _ (hP'.out _ hBa) (by omega)).mono ?_
                rintro e W1 ⟨rfl, hb1⟩
                obtain ⟨uc1, uf1⟩ := bcell hb1
                have hs1 := hb1.size
                have ht1 : w.heap.size < W1.heap.size := by omega
                have ht1' : wr.heap.size < W1.heap.size := by omega
                have hBb := hBa.trans (hb1.mono hBa.size)
                go_wp2_with fail
                refine (rIsBin _ _ p _ (hP'.out _ hBb) (by omega)).mono ?_
                rintro e W2 ⟨rfl, hb2⟩
                obtain ⟨uc2, uf2⟩ := bcell hb2
                have hs2 := hb2.size
                have ht2 : w.heap.size < W2.heap.size := by omega
                have ht2' : wr.heap.size < W2.heap.size := by omega
                have hBc := hBb.trans (hb2.mono hBb.size)
                go_wp2_with fail
                refine (rIsBin _ _ p _ (hP'.out _ hBc) (by omega)).mono ?_
                rintro e W3 ⟨rfl, hb3⟩
                obtain ⟨uc3, uf3⟩ := bcell hb3
                have hs3 := hb3.size
                have ht3 : w.heap.size < W3.heap.size := by omega
                have ht3' : wr.heap.size < W3.heap.size := by omega
                have hBd := hBc.trans (hb3.mono hBc.size)
                go_wp2_with (go_at_call 45; refine (rWithin _ _ _ _).mono ?_; rintro e w' ⟨rfl, rfl⟩)
                go_ret
                exact ⟨ret_bool (by rw [hfin.out]), hBd⟩
            · obtain rfl : m = s.moves.length := by omega
              have hmv := Lib.hid (all_of dMove hallm'.out)
              clear hallm'
              obtain ⟨aA0, aA1⟩ := And.intro hlb hls
              rcases sumsR_parts p s with ⟨g1, hf⟩ | ⟨g1, g2, hf⟩ | ⟨g1, g2, g3, hf⟩ | ⟨g1, g2, g3⟩
              · have hn1 : ((s.inn.length : Int) == (p.sizes.length : Int)) = false := by simp; omega
                have hm1 : ((s.inn.length : Int) != (p.sizes.length : Int)) = true := by simp; omega
                have hfin := Lib.hid hf
                clear hf g1
                go_wp2_with fail
                go_ret
                exact ⟨ret_bool (by rw [hfin.out]), hB⟩
              · have hn1 : ((s.inn.length : Int) == (p.sizes.length : Int)) = true := by simp; omega
                have hm1 : ((s.inn.length : Int) != (p.sizes.length : Int)) = false := by simp; omega
                have hn2 : ((s.out.length : Int) == (p.sizes.length : Int)) = false := by simp; omega
                have hm2 : ((s.out.length : Int) != (p.sizes.length : Int)) = true := by simp; omega
                have hfin := Lib.hid hf
                clear hf g1 g2
                go_wp2_with fail
                go_ret
                exact ⟨ret_bool (by rw [hfin.out]), hB⟩
              · have hn1 : ((s.inn.length : Int) == (p.sizes.length : Int)) = true := by simp; omega
                have hm1 : ((s.inn.length : Int) != (p.sizes.length : Int)) = false := by simp; omega
                have hn2 : ((s.out.length : Int) == (p.sizes.length : Int)) = true := by simp; omega
                have hm2 : ((s.out.length : Int) != (p.sizes.length : Int)) = false := by simp; omega
                have hn3 : ((s.fixed.length : Int) == (p.sizes.length : Int)) = false := by simp; omega
                have hm3 : ((s.fixed.length : Int) != (p.sizes.length : Int)) = true := by simp; omega
                have hfin := Lib.hid hf
                clear hf g1 g2 g3
                go_wp2_with fail
                go_ret
                exact ⟨ret_bool (by rw [hfin.out]), hB⟩
              · have hn1 : ((s.inn.length : Int) == (p.sizes.length : Int)) = true := by simp; omega
                have hm1 : ((s.inn.length : Int) != (p.sizes.length : Int)) = false := by simp; omega
                have hn2 : ((s.out.length : Int) == (p.sizes.length : Int)) = true := by simp; omega
                have hm2 : ((s.out.length : Int) != (p.sizes.length : Int)) = false := by simp; omega
                have hn3 : ((s.fixed.length : Int) == (p.sizes.length : Int)) = true := by simp; omega
                have hm3 : ((s.fixed.length : Int) != (p.sizes.length : Int)) = false := by simp; omega
                have hg1 := Lib.hid g1
                have hg2 := Lib.hid g2
                have hg3 := Lib.hid g3
                clear g1 g2 g3
                go_wp2_with fail
                clear hn1 hn2 hn3 hm1 hm2 hm3
                go_loopw [12] (fun i wr => ∃ m : Nat, m ≤ p.sizes.length ∧ i = .int .i64 m ∧ (∀ j, j < m → goodR s j = true) ∧ Below W0.heap.size W0 wr) (fun i _ => p.sizes.length - (intOf i).toNat)
                case atStart => exact ⟨0, Nat.zero_le _, rfl, fun j hj => by omega, hbw⟩
                case round =>
                  clear hbw hB y0 y1 x1 x2 x3 x4 x5 x6 hbz0 hbz1
                  obtain ⟨m, hm, rfl, hallm, hbw⟩ := hrel
                  have hallm' := Lib.hid hallm
                  clear hallm
                  have hB := hb0.trans (hbw.mono hb0.size)
                  obtain ⟨⟨y0, y1⟩, x1, x2, x3, x4, x5, x6⟩ := hK.out wr hbw
                  have hbz0 : w.heap.size + 1 < wr.heap.size := Nat.lt_of_lt_of_le hsz0 hbw.size
                  have hbz1 : w.heap.size < wr.heap.size := by omega
                  by_cases hml : m < p.sizes.length
                  · have hm4 : m < s.inn.length := by have := hg1.out; omega
                    have hm5 : m < s.out.length := by have := hg2.out; omega
                    have hm6 : m < s.fixed.length := by have := hg3.out; omega
                    obtain ⟨o4, l4, r4⟩ := (hI.out wr hB).at_.int hm4
                    obtain ⟨o5, l5, r5⟩ := (hU.out wr hB).at_.int hm5
                    obtain ⟨o6, l6, r6⟩ := (hX.out wr hB).at_.int hm6
                    rcases goodR_parts s m with ⟨g1, hf⟩ | ⟨g1, g2, hf⟩ | ⟨g1, g2, g3, hf⟩ | ⟨g1, g2, g3, hf⟩
                    rotate_left 3
                    focus
                      have hf' := Lib.hid hf
                      clear hf
                      go_wp2_with (go_at_call 45; refine (rWithin _ _ _ _).mono ?_; rintro e w' ⟨rfl, rfl⟩)
                      go_roundw
                      case rel =>
                        refine ⟨m + 1, by omega, by go_num, fun j hj => ?_, hbw⟩
                        rcases Nat.lt_succ_iff_lt_or_eq.1 hj with h | rfl
                        · exact hallm'.out j h
                        · exact hf'.out
                      case measure => simp [intOf]; omega
                    all_goals
                      have hfin := Lib.hid (show formed p s = false from formed_no fun h => by
                        have h2 := formed_goodR h hml
                        rw [hf] at h2; cases h2)
                      clear hf
                      go_wp2_with (go_at_call 45; refine (rWithin _ _ _ _).mono ?_; rintro e w' ⟨rfl, rfl⟩)
                      go_ret
                      exact ⟨ret_bool (by rw [hfin.out]), hB⟩
                  · obtain rfl : m = p.sizes.length := by omega
                    have hfin := Lib.hid (formed_of hord.out hok'.out hhin.out hmv.out ⟨hg1.out, hg2.out, hg3.out⟩ hallm'.out)
                    go_wp2_with fail
                    go_ret
                    exact ⟨ret_bool (by rw [hfin.out]), hB⟩
end Wh
namespace Wh
open Go Go.RowKit Go.Shelf Go.Proofs
attribute [local go_sem] run_indexAt_letter
set_option maxHeartbeats 1000000 in
/-- summed's closure: a line that lacks some. -/
theorem sLacks (x : Line) (W : World) : Calls Try.prog 99 #[vLine x] W fun e W' => e = .returned (.bool (decide (x.got < x.want))) ∧ Below W.heap.size W W' := by
  have hb0 : Below W.heap.size W (W.alloc (.cells #[.int .i64 (x).good, .int .i64 (x).want, .int .i64 (x).got, .int .i64 (x).back] 75)) := (Below.refl _ _).alloc (Nat.le_refl _) _
  unfold vLine
  go_enter Try.func99, Try.ntmps99
  go_wp2_with fail
  go_ret
  exact ⟨rfl, hb0⟩
theorem entersLacks : Enters Try.prog 99 := enters_of Try.func99 (by kernel_rfl) rfl

theorem line_sums (s : State) (o k : Nat) :
    (((s.order o).kind == 0) = true ∧ ((s.order o).kind == 2) = false ∧ ((s.line o k).got + (s.line o k).back + kept s.holds o k != 0) = true ∧ lineSummed s o k = false) ∨
    (((s.order o).kind == 0) = true ∧ ((s.order o).kind == 2) = false ∧ ((s.line o k).got + (s.line o k).back + kept s.holds o k != 0) = false ∧ lineSummed s o k = true) ∨
    (((s.order o).kind == 0) = false ∧ ((s.line o k).got + (s.line o k).back + kept s.holds o k != (s.line o k).want) = true ∧ lineSummed s o k = false) ∨
    (((s.order o).kind == 0) = false ∧ ((s.line o k).got + (s.line o k).back + kept s.holds o k != (s.line o k).want) = false ∧ ((s.order o).kind == 2) = true ∧ decide (0 < kept s.holds o k) = true ∧ lineSummed s o k = false) ∨
    (((s.order o).kind == 0) = false ∧ ((s.line o k).got + (s.line o k).back + kept s.holds o k != (s.line o k).want) = false ∧ ((s.order o).kind == 2) = true ∧ decide (0 < kept s.holds o k) = false ∧ lineSummed s o k = true) ∨
    (((s.order o).kind == 0) = false ∧ ((s.line o k).got + (s.line o k).back + kept s.holds o k != (s.line o k).want) = false ∧ ((s.order o).kind == 2) = false ∧ lineSummed s o k = true) := by
  unfold lineSummed
  by_cases h0 : (s.order o).kind = 0
  · by_cases h1 : (s.line o k).got + (s.line o k).back + kept s.holds o k = 0 <;> simp [h0, h1]
  · by_cases h1 : (s.line o k).got + (s.line o k).back + kept s.holds o k = (s.line o k).want <;> by_cases h2 : (s.order o).kind = 2 <;> by_cases h3 : 0 < kept s.holds o k <;> simp [h0, h1, h2, h3]
theorem keptE_ok {l : List Hold} (h : holdsOk l = true) (o ln : Int) : keptE l o ln = (kept l o ln, 0) := by unfold keptE; rw [h]; rfl

set_option maxHeartbeats 8000000 in
set_option maxRecDepth 100000 in
theorem sSummed (w : World) (v vs : Value) (p : Plan) (s : State) (hp : PlanV w w.heap.size v p) (hv : StateV w w.heap.size vs s) (hs : Sane p s) :
    Calls Try.prog 58 #[v, vs] w fun e w' => e = .returned (.bool (summed p s)) ∧ Below w.heap.size w w' := by
  have hcnt := hs.counts
  have h4 := hs.orders4
  have h72 := ok_len72 hs.holds
  have hsH := Lib.hid hs
  clear hs
  obtain ⟨Ab, cb, As, cs, rfl, hP', hBn, hSz, hlb, hls⟩ := openPl hp
  obtain ⟨A0, c0, A1, c1, A2, c2, A3, c3, A4, c4, A5, c5, A6, c6, rfl, hV, hN, hO, hH, hM, hI, hU, hX, hl0, hl1, hl2, hl3, hl4, hl5, hl6⟩ := openOne hv
  go_enter Try.func58, Try.ntmps58
  go_wp2_with fail
  obtain ⟨W0, hW0, hb0, hsz0, hsz1, hsE, hK⟩ := boxesTwo w p s Ab cb As cs A0 c0 A1 c1 A2 c2 A3 c3 A4 c4 A5 c5 A6 c6
  rw [hW0]
  clear hW0
  obtain ⟨⟨y0, y1⟩, x0, x1, x2, x3, x4, x5, x6, hbz0, hbz1⟩ := hK.out W0 (Below.refl W0.heap.size W0)
  go_loopw [19, 5, 6, 7, 8] (fun i _ _ _ _ wr => ∃ k : Nat, k ≤ p.sizes.length ∧ i = .int .i64 k ∧ (∀ j, j < k → goodSummed p s j = true) ∧ Below W0.heap.size W0 wr) (fun i _ _ _ _ _ => p.sizes.length - (intOf i).toNat)
  case atStart => exact ⟨0, Nat.zero_le _, rfl, fun j hj => by omega, Below.refl _ _⟩
  case round =>
    clear y0 y1 x0 x1 x2 x3 x4 x5 x6 hbz0 hbz1
    obtain ⟨k, hk, rfl, hall, hbw⟩ := hrel
    have hall' := Lib.hid hall
    clear hall
    have hB := hb0.trans (hbw.mono hb0.size)
    obtain ⟨⟨y0, y1⟩, x0, x1, x2, x3, x4, x5, x6, hbz0, hbz1⟩ := hK.out wr (hbw)
    by_cases hlt : k < p.sizes.length
    · have hI4 : k < s.inn.length := by rw [hsH.out.inn.1]; exact hlt
      have hI5 : k < s.out.length := by rw [hsH.out.out.1]; exact hlt
      have hI6 : k < s.fixed.length := by rw [hsH.out.fixed.1]; exact hlt
      obtain ⟨i1, i2⟩ := hsH.out.inn.2 hlt
      obtain ⟨u1, u2⟩ := hsH.out.out.2 hlt
      obtain ⟨f1, f2⟩ := hsH.out.fixed.2 hlt
      have e0 : shelfError p s.on 0 k = 0 := shelfError_zero.2 ⟨hsH.out.shelf, isBin_iff.2 (by omega), isGood_iff.2 (by omega)⟩
      have hSE := Lib.hid (sumE_ok e0)
      clear e0
      go_wp2_with fail
      refine (shelfSum _ _ _ p s.on k (hP'.out wr hB) (hN.out wr hB)).mono ?_
      rintro e W1 ⟨rfl, hb1⟩
      rw [hSE.out]
      clear y0 y1 x0 x1 x2 x3 x4 x5 x6 hbz0 hbz1
      have hbw1 := hbw.trans (hb1.mono hbw.size)
      have hB1 := hb0.trans (hbw1.mono hb0.size)
      obtain ⟨⟨y0, y1⟩, x0, x1, x2, x3, x4, x5, x6, hbz0, hbz1⟩ := hK.out W1 (hbw1)
      obtain ⟨o4, l4, r4⟩ := (hI.out W1 hB1).at_.int hI4
      obtain ⟨o5, l5, r5⟩ := (hU.out W1 hB1).at_.int hI5
      obtain ⟨o6, l6, r6⟩ := (hX.out W1 hB1).at_.int hI6
      have q1 := fun o d os => cells_wld (w := W1) (b := w.heap.size + 1) hbz0 o d os
      have q4 := fun o d os => cells_wld (w := W1) (b := ablk A4) l4 o d os
      have q5 := fun o d os => cells_wld (w := W1) (b := ablk A5) l5 o d os
      have q6 := fun o d os => cells_wld (w := W1) (b := ablk A6) l6 o d os
      have hw1 : IntKind.i64.wrap (intAt s.inn k - intAt s.out k) = intAt s.inn k - intAt s.out k := IntWalk.i64_in _ (by omega)
      have hw2 : IntKind.i64.wrap (intAt s.inn k - intAt s.out k + intAt s.fixed k) = intAt s.inn k - intAt s.out k + intAt s.fixed k := IntWalk.i64_in _ (by omega)
      have hw1' := Lib.hid hw1
      have hw2' := Lib.hid hw2
      clear hw1 hw2
      by_cases hsum : sumOf s.on k = intAt s.inn k - intAt s.out k + intAt s.fixed k
      · have hne : (sumOf s.on k != intAt s.inn k - intAt s.out k + intAt s.fixed k) = false := by simpa using hsum
        have hsum' := Lib.hid hsum
        have hw1 := hw1'.out
        have hw2 := hw2'.out
        clear hsum
        go_wp2_with fail
        refine wp_region_wld (by kernel_rfl) (by kernel_rfl) ?_
        repeat (go_big_quiet_step (fail))
        refine wpQuiet_nil ?_
        intro W2 hw'
        have hb2 := below_of_cls hw'
        clear hw'
        clear q1 q4 q5 q6 hw1 hw2 hne
        clear y0 y1 x0 x1 x2 x3 x4 x5 x6 hbz0 hbz1
        have hbw2 := hbw1.trans (hb2.mono hbw1.size)
        have hB2 := hb0.trans (hbw2.mono hb0.size)
        obtain ⟨⟨y0, y1⟩, x0, x1, x2, x3, x4, x5, x6, hbz0, hbz1⟩ := hK.out W2 (hbw2)
        go_wp2_with fail
        go_loopw [52, 8] (fun i _ wr => ∃ m : Nat, m ≤ p.bins.length ∧ i = .int .i64 m ∧ (∀ j, j < m → bound s j k ≤ cell s.on j k) ∧ Below W0.heap.size W0 wr) (fun i _ _ => p.bins.length - (intOf i).toNat)
        case atStart => exact ⟨0, Nat.zero_le _, rfl, fun j hj => by omega, hbw2⟩
        case round =>
          clear y0 y1 x0 x1 x2 x3 x4 x5 x6 hbz0 hbz1
          clear r4 r5 r6 hbw hb1 hB hbw1 hB1 hb2 hbw2 hB2
          obtain ⟨m, hm, rfl, hallm, hbw⟩ := hrel
          have hallm' := Lib.hid hallm
          clear hallm
          have hB := hb0.trans (hbw.mono hb0.size)
          obtain ⟨⟨y0, y1⟩, x0, x1, x2, x3, x4, x5, x6, hbz0, hbz1⟩ := hK.out wr (hbw)
          by_cases hml : m < p.bins.length
          · have hml' : m < s.on.length := by rw [hsH.out.onLen]; exact hml
            have hkr : k < (rowAt s.on m).length := by rw [hsH.out.rowLen hml]; exact hlt
            obtain ⟨Ar, cr, or0, lr0, rr0, hrow⟩ := (hN.out wr hB).row hml'
            obtain ⟨or1, lr1, rr1⟩ := hrow.at_.int hkr
            have q1 := fun o d os => cells_wld (w := wr) (b := w.heap.size + 1) hbz0 o d os
            have q2 := fun o d os => cells_wld (w := wr) (b := ablk A0) lr0 o d os
            have q3 := fun o d os => cells_wld (w := wr) (b := ablk Ar) lr1 o d os
            have hV2 := Lib.hid (fun d os => hV.out _ (hB.trans ((below_wld wr d os).mono hB.size)))
            have hcl : intAt (rowAt s.on m) k = cell s.on m k := rfl
            have hcl' := Lib.hid hcl
            clear hcl
            by_cases hbd : bound s m k ≤ cell s.on m k
            · have hd : decide (intAt (rowAt s.on m) k < bound s m k) = false := by rw [hcl'.out]; simpa using hbd
              have hbd' := Lib.hid hbd
              clear hbd
              go_wp2_with fail
              refine wp_region_wld (by kernel_rfl) (by kernel_rfl) ?_
              repeat (go_big_quiet_step ((go_at_call 98; refine calls_wld (sBound _ _ p s _ _ (hV2.out _ _) hsH.out))))
              refine wpQuiet_nil ?_
              intro W2 hw'
              have hb2 := below_of_cls hw'
              clear hw'
              clear q1 q2 q3
              go_wp2_with fail
              go_roundw
              case rel =>
                refine ⟨m + 1, by omega, by go_num, fun j hj => ?_, hbw.trans (hb2.mono hbw.size)⟩
                rcases Nat.lt_succ_iff_lt_or_eq.1 hj with h | rfl
                · exact hallm'.out j h
                · exact hbd'.out
              case measure => simp [intOf]; omega
            · have hd : decide (intAt (rowAt s.on m) k < bound s m k) = true := by rw [hcl'.out]; simpa using hbd
              have hfin := Lib.hid (summed_good hlt (goodSummed_bin hml (show cell s.on m k < bound s m k by omega)))
              clear hbd
              go_wp2_with fail
              refine wp_region_wld (by kernel_rfl) (by kernel_rfl) ?_
              repeat (go_big_quiet_step ((go_at_call 98; refine calls_wld (sBound _ _ p s _ _ (hV2.out _ _) hsH.out))))
              refine wpQuiet_nil ?_
              intro W2 hw'
              have hb2 := below_of_cls hw'
              clear hw'
              clear q1 q2 q3
              go_wp2_with fail
              go_ret
              exact ⟨ret_bool (by rw [hfin.out]), hB.trans (hb2.mono hB.size)⟩
          · obtain rfl : m = p.bins.length := by omega
            go_wp2_with fail
            go_roundw
            case rel =>
              refine ⟨k + 1, by omega, by go_num, fun j hj => ?_, hbw⟩
              rcases Nat.lt_succ_iff_lt_or_eq.1 hj with h | rfl
              · exact hall'.out j h
              · exact goodSummed_iff.2 ⟨hsum'.out, hallm'.out⟩
            case measure => simp [intOf]; omega
      · have hne : (sumOf s.on k != intAt s.inn k - intAt s.out k + intAt s.fixed k) = true := by simpa using hsum
        have hfin := Lib.hid (summed_good hlt (goodSummed_sum hsum))
        have hw1 := hw1'.out
        have hw2 := hw2'.out
        clear hsum
        go_wp2_with fail
        refine wp_region_wld (by kernel_rfl) (by kernel_rfl) ?_
        repeat (go_big_quiet_step (fail))
        refine wpQuiet_nil ?_
        intro W2 hw'
        have hb2 := below_of_cls hw'
        clear hw'
        clear q1 q4 q5 q6 hw1 hw2 hne
        go_wp2_with fail
        go_ret
        exact ⟨ret_bool (by rw [hfin.out]), hB1.trans (hb2.mono hB1.size)⟩
    · obtain rfl : k = p.sizes.length := by omega
      go_wp2_with fail
      go_loopw [73, 9, 10, 11, 12, 13, 14, 15] (fun i _ _ _ _ _ _ _ wr => ∃ k : Nat, k ≤ s.orders.length ∧ i = .int .i64 k ∧ (∀ j, j < k → orderSummed s j = true) ∧ Below W0.heap.size W0 wr) (fun i _ _ _ _ _ _ _ _ => s.orders.length - (intOf i).toNat)
      case atStart => exact ⟨0, Nat.zero_le _, rfl, fun j hj => by omega, hbw⟩
      case round =>
        clear y0 y1 x0 x1 x2 x3 x4 x5 x6 hbz0 hbz1
        clear hbw hB
        obtain ⟨k, hk, rfl, hallo, hbw⟩ := hrel
        have hallo' := Lib.hid hallo
        clear hallo
        have hB := hb0.trans (hbw.mono hb0.size)
        obtain ⟨⟨y0, y1⟩, x0, x1, x2, x3, x4, x5, x6, hbz0, hbz1⟩ := hK.out wr (hbw)
        by_cases hlt : k < s.orders.length
        · obtain ⟨A', c', hok1, hAb1, d0, d1, hsl⟩ := (hO.out wr hB).order hlt
          obtain ⟨l1, l3⟩ := hsH.out.lines3 hlt
          change 1 ≤ (orderAt s.orders k).lines.length at l1
          change (orderAt s.orders k).lines.length ≤ 3 at l3
          have hba : Below W0.heap.size W0 (wr.alloc (.cells #[.int .i64 (orderAt s.orders k).kind, .slice A' (orderAt s.orders k).lines.length c'] 73)) := hbw.alloc hbw.size _
          have hwa : Below wr.heap.size wr (wr.alloc (.cells #[.int .i64 (orderAt s.orders k).kind, .slice A' (orderAt s.orders k).lines.length c'] 73)) := (Below.refl _ _).alloc (Nat.le_refl _) _
          have hla : wr.heap.size < (wr.alloc (.cells #[.int .i64 (orderAt s.orders k).kind, .slice A' (orderAt s.orders k).lines.length c'] 73)).heap.size := by simp
          have hzo : (wr.alloc (.cells #[.int .i64 (orderAt s.orders k).kind, .slice A' (orderAt s.orders k).lines.length c'] 73)).cell? ⟨wr.heap.size, 0, none⟩ = some (.int .i64 (orderAt s.orders k).kind) ∧
              (wr.alloc (.cells #[.int .i64 (orderAt s.orders k).kind, .slice A' (orderAt s.orders k).lines.length c'] 73)).cell? ⟨wr.heap.size, 1, none⟩ = some (.slice A' (orderAt s.orders k).lines.length c') := by simp
          have hzo' := Lib.hid hzo
          clear hzo
          by_cases hk1 : (orderAt s.orders k).kind = 1
          · have hq : ((orderAt s.orders k).kind == 1) = true := by simpa using hk1
            have hk1' := Lib.hid hk1
            clear hk1
            go_wp2_with fail
            refine (containsFuncLine _ _ (orderAt s.orders k).lines 99 #[] (fun x => decide (x.got < x.want)) entersLacks (hsl.grow hwa) (fun j _ W hW => sLacks _ W)).mono ?_
            rintro e W2 ⟨rfl, hb2⟩
            have hag := allGot_any hsH.out hlt
            change ((orderAt s.orders k).lines.any fun x => decide (x.got < x.want)) = _ at hag
            rw [hag]
            clear hag
            cases hgot : allGot (s.order k)
            · have hng := Lib.hid (show ¬ ((s.order k).kind = 1 ∧ allGot (s.order k) = true) by rw [hgot]; simp)
              have hbk := hba.trans (hb2.mono hba.size)
              have hlk : wr.heap.size < W2.heap.size := Nat.lt_of_lt_of_le hla hb2.size
              have zo0 := (hb2.cell (p := ⟨wr.heap.size, 0, none⟩) hla).trans hzo'.out.1
              have zo1 := (hb2.cell (p := ⟨wr.heap.size, 1, none⟩) hla).trans hzo'.out.2
              have hLs := Lib.hid (hsl.grow (hwa.trans (hb2.mono hwa.size)))
              clear hgot hba hwa hla hzo' hsl d0 d1
              go_wp2_with fail
              clear hq hb2
              clear y0 y1 x0 x1 x2 x3 x4 x5 x6 hbz0 hbz1
              obtain ⟨wo, hwo⟩ : ∃ n : Nat, n = wr.heap.size := ⟨_, rfl⟩
              rw [← hwo] at hlk zo0 zo1
              rw [← hwo]
              clear hwo
              clear hbw hB
              go_loopw [90, 11, 12, 13, 14, 15] (fun i _ _ _ _ _ wr => ∃ m : Nat, m ≤ (orderAt s.orders k).lines.length ∧ i = .int .i64 m ∧ (∀ j, j < m → lineSummed s k j = true) ∧ Below W2.heap.size W2 wr) (fun i _ _ _ _ _ _ => (orderAt s.orders k).lines.length - (intOf i).toNat)
              case atStart => exact ⟨0, Nat.zero_le _, rfl, fun j hj => by omega, Below.refl _ _⟩
              case round =>
                obtain ⟨m, hm, rfl, hallm, hbl⟩ := hrel
                have hallm' := Lib.hid hallm
                clear hallm
                have hbw := hbk.trans (hbl.mono hbk.size)
                have hB := hb0.trans (hbw.mono hb0.size)
                obtain ⟨⟨y0, y1⟩, x0, x1, x2, x3, x4, x5, x6, hbz0, hbz1⟩ := hK.out wr (hbw)
                have w0 := (hbl.cell (p := ⟨wo, 0, none⟩) hlk).trans zo0
                have w1 := (hbl.cell (p := ⟨wo, 1, none⟩) hlk).trans zo1
                have hlw := Nat.lt_of_lt_of_le hlk hbl.size
                by_cases hml : m < (orderAt s.orders k).lines.length
                · obtain ⟨hok2, hAb2, e0, e1, e2, e3⟩ := (hLs.out.grow hbl).at_.line hml
                  have hl : lineAt (orderAt s.orders k).lines m = s.line k m := rfl
                  rw [hl] at e0 e1 e2 e3
                  clear hl
                  obtain ⟨_, ⟨b1, b2⟩, ⟨b3, b4⟩, b5, b6⟩ := hsH.out.line hlt hml
                  obtain ⟨b7, b8⟩ := kept_range hsH.out.holds k m
                  have hke1 := Lib.hid (show (keptE s.holds k m).1 = kept s.holds k m by rw [keptE_ok hsH.out.holds])
                  have hke2 := Lib.hid (show (keptE s.holds k m).2 = 0 by rw [keptE_ok hsH.out.holds])
                  have hbl1 : Below W2.heap.size W2 (wr.alloc (.cells #[.int .i64 (s.line k m).good, .int .i64 (s.line k m).want, .int .i64 (s.line k m).got, .int .i64 (s.line k m).back] 75)) := hbl.alloc hbl.size _
                  have hlw1 : wr.heap.size < (wr.alloc (.cells #[.int .i64 (s.line k m).good, .int .i64 (s.line k m).want, .int .i64 (s.line k m).got, .int .i64 (s.line k m).back] 75)).heap.size := by simp
                  have hzl : (wr.alloc (.cells #[.int .i64 (s.line k m).good, .int .i64 (s.line k m).want, .int .i64 (s.line k m).got, .int .i64 (s.line k m).back] 75)).cell? ⟨wr.heap.size, 1, none⟩ = some (.int .i64 (s.line k m).want) ∧ (wr.alloc (.cells #[.int .i64 (s.line k m).good, .int .i64 (s.line k m).want, .int .i64 (s.line k m).got, .int .i64 (s.line k m).back] 75)).cell? ⟨wr.heap.size, 2, none⟩ = some (.int .i64 (s.line k m).got) ∧ (wr.alloc (.cells #[.int .i64 (s.line k m).good, .int .i64 (s.line k m).want, .int .i64 (s.line k m).got, .int .i64 (s.line k m).back] 75)).cell? ⟨wr.heap.size, 3, none⟩ = some (.int .i64 (s.line k m).back) := by simp
                  have hzl' := Lib.hid hzl
                  have hbw1 := hbk.trans (hbl1.mono hbk.size)
                  have hB1 := hb0.trans (hbw1.mono hb0.size)
                  clear hzl
                  go_wp2_with fail
                  refine (hdKept _ _ s.holds k m (hH.out _ hB1)).mono ?_
                  rintro e W3 ⟨rfl, hb3⟩
                  rw [hke1.out, hke2.out]
                  have hbl3 := hbl1.trans (hb3.mono hbl1.size)
                  have hbw3 := hbk.trans (hbl3.mono hbk.size)
                  have z0 := (hbl3.cell (p := ⟨wo, 0, none⟩) hlk).trans zo0
                  have z1 := (hb3.cell (p := ⟨wr.heap.size, 1, none⟩) hlw1).trans hzl'.out.1
                  have z2 := (hb3.cell (p := ⟨wr.heap.size, 2, none⟩) hlw1).trans hzl'.out.2.1
                  have z3 := (hb3.cell (p := ⟨wr.heap.size, 3, none⟩) hlw1).trans hzl'.out.2.2
                  clear e0 e1 e2 e3 w0 w1
                  clear y0 y1 x0 x1 x2 x3 x4 x5 x6 hbz0 hbz1
                  have hparts := line_sums s k m
                  unfold State.order at hparts
                  rcases hparts with ⟨g1, g2, g3, hf⟩ | ⟨g1, g2, g3, hf⟩ | ⟨g1, g2, hf⟩ | ⟨g1, g2, g3, g4, hf⟩ | ⟨g1, g2, g3, g4, hf⟩ | ⟨g1, g2, g3, hf⟩
                  · have hfin := Lib.hid (summed_order (p := p) hlt (orderSummed_line hml hf))
                    clear hf
                    go_wp2_with fail
                    go_ret
                    exact ⟨ret_bool (by rw [hfin.out]), hb0.trans (hbw3.mono hb0.size)⟩
                  · have hf' := Lib.hid hf
                    clear hf
                    go_wp2_with fail
                    go_roundw
                    case rel =>
                      refine ⟨m + 1, by omega, by go_num, fun j hj => ?_, hbl3⟩
                      rcases Nat.lt_succ_iff_lt_or_eq.1 hj with h | rfl
                      · exact hallm'.out j h
                      · exact hf'.out
                    case measure => simp [intOf]; omega
                  · have hfin := Lib.hid (summed_order (p := p) hlt (orderSummed_line hml hf))
                    clear hf
                    go_wp2_with fail
                    go_ret
                    exact ⟨ret_bool (by rw [hfin.out]), hb0.trans (hbw3.mono hb0.size)⟩
                  · have hfin := Lib.hid (summed_order (p := p) hlt (orderSummed_line hml hf))
                    clear hf
                    go_wp2_with fail
                    go_ret
                    exact ⟨ret_bool (by rw [hfin.out]), hb0.trans (hbw3.mono hb0.size)⟩
                  · have hf' := Lib.hid hf
                    clear hf
                    go_wp2_with fail
                    go_roundw
                    case rel =>
                      refine ⟨m + 1, by omega, by go_num, fun j hj => ?_, hbl3⟩
                      rcases Nat.lt_succ_iff_lt_or_eq.1 hj with h | rfl
                      · exact hallm'.out j h
                      · exact hf'.out
                    case measure => simp [intOf]; omega
                  · have hf' := Lib.hid hf
                    clear hf
                    go_wp2_with fail
                    go_roundw
                    case rel =>
                      refine ⟨m + 1, by omega, by go_num, fun j hj => ?_, hbl3⟩
                      rcases Nat.lt_succ_iff_lt_or_eq.1 hj with h | rfl
                      · exact hallm'.out j h
                      · exact hf'.out
                    case measure => simp [intOf]; omega
                · obtain rfl : m = (orderAt s.orders k).lines.length := by omega
                  go_wp2_with fail
                  go_roundw
                  case rel =>
                    refine ⟨k + 1, by omega, by go_num, fun j hj => ?_, hbw⟩
                    rcases Nat.lt_succ_iff_lt_or_eq.1 hj with h | rfl
                    · exact hallo'.out j h
                    · exact orderSummed_iff.2 ⟨hng.out, hallm'.out⟩
                  case measure => simp [intOf]; omega
            · have hfin := Lib.hid (summed_order (p := p) hlt (orderSummed_got hk1'.out hgot))
              clear hgot
              go_wp2_with fail
              go_ret
              exact ⟨ret_bool (by rw [hfin.out]), hb0.trans ((hba.trans (hb2.mono hba.size)).mono hb0.size)⟩
          · have hq : ((orderAt s.orders k).kind == 1) = false := by simpa using hk1
            have hng := Lib.hid (show ¬ ((s.order k).kind = 1 ∧ allGot (s.order k) = true) from fun h => hk1 h.1)
            clear hk1
            go_wp2_with fail
            clear hq
            generalize hW2 : wr.alloc (.cells #[.int .i64 (orderAt s.orders k).kind, .slice A' (orderAt s.orders k).lines.length c'] 73) = W2 at hba hwa hla hzo' ⊢
            have hbk := hba
            have hlk := hla
            have zo0 := hzo'.out.1
            have zo1 := hzo'.out.2
            have hLs := Lib.hid (hsl.grow hwa)
            clear hba hwa hla hzo' hsl d0 d1 hW2
            clear y0 y1 x0 x1 x2 x3 x4 x5 x6 hbz0 hbz1
            obtain ⟨wo, hwo⟩ : ∃ n : Nat, n = wr.heap.size := ⟨_, rfl⟩
            rw [← hwo] at hlk zo0 zo1
            rw [← hwo]
            clear hwo
            clear hbw hB
            go_loopw [90, 11, 12, 13, 14, 15] (fun i _ _ _ _ _ wr => ∃ m : Nat, m ≤ (orderAt s.orders k).lines.length ∧ i = .int .i64 m ∧ (∀ j, j < m → lineSummed s k j = true) ∧ Below W2.heap.size W2 wr) (fun i _ _ _ _ _ _ => (orderAt s.orders k).lines.length - (intOf i).toNat)
            case atStart => exact ⟨0, Nat.zero_le _, rfl, fun j hj => by omega, Below.refl _ _⟩
            case round =>
              obtain ⟨m, hm, rfl, hallm, hbl⟩ := hrel
              have hallm' := Lib.hid hallm
              clear hallm
              have hbw := hbk.trans (hbl.mono hbk.size)
              have hB := hb0.trans (hbw.mono hb0.size)
              obtain ⟨⟨y0, y1⟩, x0, x1, x2, x3, x4, x5, x6, hbz0, hbz1⟩ := hK.out wr (hbw)
              have w0 := (hbl.cell (p := ⟨wo, 0, none⟩) hlk).trans zo0
              have w1 := (hbl.cell (p := ⟨wo, 1, none⟩) hlk).trans zo1
              have hlw := Nat.lt_of_lt_of_le hlk hbl.size
              by_cases hml : m < (orderAt s.orders k).lines.length
              · obtain ⟨hok2, hAb2, e0, e1, e2, e3⟩ := (hLs.out.grow hbl).at_.line hml
                have hl : lineAt (orderAt s.orders k).lines m = s.line k m := rfl
                rw [hl] at e0 e1 e2 e3
                clear hl
                obtain ⟨_, ⟨b1, b2⟩, ⟨b3, b4⟩, b5, b6⟩ := hsH.out.line hlt hml
                obtain ⟨b7, b8⟩ := kept_range hsH.out.holds k m
                have hke1 := Lib.hid (show (keptE s.holds k m).1 = kept s.holds k m by rw [keptE_ok hsH.out.holds])
                have hke2 := Lib.hid (show (keptE s.holds k m).2 = 0 by rw [keptE_ok hsH.out.holds])
                have hbl1 : Below W2.heap.size W2 (wr.alloc (.cells #[.int .i64 (s.line k m).good, .int .i64 (s.line k m).want, .int .i64 (s.line k m).got, .int .i64 (s.line k m).back] 75)) := hbl.alloc hbl.size _
                have hlw1 : wr.heap.size < (wr.alloc (.cells #[.int .i64 (s.line k m).good, .int .i64 (s.line k m).want, .int .i64 (s.line k m).got, .int .i64 (s.line k m).back] 75)).heap.size := by simp
                have hzl : (wr.alloc (.cells #[.int .i64 (s.line k m).good, .int .i64 (s.line k m).want, .int .i64 (s.line k m).got, .int .i64 (s.line k m).back] 75)).cell? ⟨wr.heap.size, 1, none⟩ = some (.int .i64 (s.line k m).want) ∧ (wr.alloc (.cells #[.int .i64 (s.line k m).good, .int .i64 (s.line k m).want, .int .i64 (s.line k m).got, .int .i64 (s.line k m).back] 75)).cell? ⟨wr.heap.size, 2, none⟩ = some (.int .i64 (s.line k m).got) ∧ (wr.alloc (.cells #[.int .i64 (s.line k m).good, .int .i64 (s.line k m).want, .int .i64 (s.line k m).got, .int .i64 (s.line k m).back] 75)).cell? ⟨wr.heap.size, 3, none⟩ = some (.int .i64 (s.line k m).back) := by simp
                have hzl' := Lib.hid hzl
                have hbw1 := hbk.trans (hbl1.mono hbk.size)
                have hB1 := hb0.trans (hbw1.mono hb0.size)
                clear hzl
                go_wp2_with fail
                refine (hdKept _ _ s.holds k m (hH.out _ hB1)).mono ?_
                rintro e W3 ⟨rfl, hb3⟩
                rw [hke1.out, hke2.out]
                have hbl3 := hbl1.trans (hb3.mono hbl1.size)
                have hbw3 := hbk.trans (hbl3.mono hbk.size)
                have z0 := (hbl3.cell (p := ⟨wo, 0, none⟩) hlk).trans zo0
                have z1 := (hb3.cell (p := ⟨wr.heap.size, 1, none⟩) hlw1).trans hzl'.out.1
                have z2 := (hb3.cell (p := ⟨wr.heap.size, 2, none⟩) hlw1).trans hzl'.out.2.1
                have z3 := (hb3.cell (p := ⟨wr.heap.size, 3, none⟩) hlw1).trans hzl'.out.2.2
                clear e0 e1 e2 e3 w0 w1
                clear y0 y1 x0 x1 x2 x3 x4 x5 x6 hbz0 hbz1
                have hparts := line_sums s k m
                unfold State.order at hparts
                rcases hparts with ⟨g1, g2, g3, hf⟩ | ⟨g1, g2, g3, hf⟩ | ⟨g1, g2, hf⟩ | ⟨g1, g2, g3, g4, hf⟩ | ⟨g1, g2, g3, g4, hf⟩ | ⟨g1, g2, g3, hf⟩
                · have hfin := Lib.hid (summed_order (p := p) hlt (orderSummed_line hml hf))
                  clear hf
                  go_wp2_with fail
                  go_ret
                  exact ⟨ret_bool (by rw [hfin.out]), hb0.trans (hbw3.mono hb0.size)⟩
                · have hf' := Lib.hid hf
                  clear hf
                  go_wp2_with fail
                  go_roundw
                  case rel =>
                    refine ⟨m + 1, by omega, by go_num, fun j hj => ?_, hbl3⟩
                    rcases Nat.lt_succ_iff_lt_or_eq.1 hj with h | rfl
                    · exact hallm'.out j h
                    · exact hf'.out
                  case measure => simp [intOf]; omega
                · have hfin := Lib.hid (summed_order (p := p) hlt (orderSummed_line hml hf))
                  clear hf
                  go_wp2_with fail
                  go_ret
                  exact ⟨ret_bool (by rw [hfin.out]), hb0.trans (hbw3.mono hb0.size)⟩
                · have hfin := Lib.hid (summed_order (p := p) hlt (orderSummed_line hml hf))
                  clear hf
                  go_wp2_with fail
                  go_ret
                  exact ⟨ret_bool (by rw [hfin.out]), hb0.trans (hbw3.mono hb0.size)⟩
                · have hf' := Lib.hid hf
                  clear hf
                  go_wp2_with fail
                  go_roundw
                  case rel =>
                    refine ⟨m + 1, by omega, by go_num, fun j hj => ?_, hbl3⟩
                    rcases Nat.lt_succ_iff_lt_or_eq.1 hj with h | rfl
                    · exact hallm'.out j h
                    · exact hf'.out
                  case measure => simp [intOf]; omega
                · have hf' := Lib.hid hf
                  clear hf
                  go_wp2_with fail
                  go_roundw
                  case rel =>
                    refine ⟨m + 1, by omega, by go_num, fun j hj => ?_, hbl3⟩
                    rcases Nat.lt_succ_iff_lt_or_eq.1 hj with h | rfl
                    · exact hallm'.out j h
                    · exact hf'.out
                  case measure => simp [intOf]; omega
              · obtain rfl : m = (orderAt s.orders k).lines.length := by omega
                go_wp2_with fail
                go_roundw
                case rel =>
                  refine ⟨k + 1, by omega, by go_num, fun j hj => ?_, hbw⟩
                  rcases Nat.lt_succ_iff_lt_or_eq.1 hj with h | rfl
                  · exact hallo'.out j h
                  · exact orderSummed_iff.2 ⟨hng.out, hallm'.out⟩
                case measure => simp [intOf]; omega
        · obtain rfl : k = s.orders.length := by omega
          have hfin := Lib.hid (summed_iff.2 ⟨hall'.out, hallo'.out⟩)
          go_wp2_with fail
          go_ret
          exact ⟨ret_bool (by rw [hfin.out]), hB⟩
end Wh
namespace Wh
open Go Go.RowKit Go.Shelf Go.Proofs
attribute [local go_sem] run_indexAt_letter
theorem line_sumsR (s : State) (o k : Nat) (h : 0 ≤ kept s.holds o k) :
    (((s.order o).kind == 0) = true ∧ ((s.order o).kind != 0) = false ∧ ((s.order o).kind == 2) = false ∧ ((s.line o k).got + (s.line o k).back + kept s.holds o k != 0) = true ∧ lineSummed s o k = false) ∨
    (((s.order o).kind == 0) = true ∧ ((s.order o).kind != 0) = false ∧ ((s.order o).kind == 2) = false ∧ ((s.line o k).got + (s.line o k).back + kept s.holds o k != 0) = false ∧ lineSummed s o k = true) ∨
    (((s.order o).kind == 0) = false ∧ ((s.order o).kind != 0) = true ∧ ((s.line o k).got + (s.line o k).back + kept s.holds o k != (s.line o k).want) = true ∧ lineSummed s o k = false) ∨
    (((s.order o).kind == 0) = false ∧ ((s.order o).kind != 0) = true ∧ ((s.line o k).got + (s.line o k).back + kept s.holds o k != (s.line o k).want) = false ∧ ((s.order o).kind == 2) = true ∧ (kept s.holds o k != 0) = true ∧ lineSummed s o k = false) ∨
    (((s.order o).kind == 0) = false ∧ ((s.order o).kind != 0) = true ∧ ((s.line o k).got + (s.line o k).back + kept s.holds o k != (s.line o k).want) = false ∧ ((s.order o).kind == 2) = true ∧ (kept s.holds o k != 0) = false ∧ lineSummed s o k = true) ∨
    (((s.order o).kind == 0) = false ∧ ((s.order o).kind != 0) = true ∧ ((s.line o k).got + (s.line o k).back + kept s.holds o k != (s.line o k).want) = false ∧ ((s.order o).kind == 2) = false ∧ lineSummed s o k = true) := by
  unfold lineSummed
  have h3 : 0 < kept s.holds o k ↔ ¬ kept s.holds o k = 0 := by omega
  by_cases h0 : (s.order o).kind = 0
  · by_cases h1 : (s.line o k).got + (s.line o k).back + kept s.holds o k = 0 <;> simp [h0, h1]
  · by_cases h1 : (s.line o k).got + (s.line o k).back + kept s.holds o k = (s.line o k).want <;> by_cases h2 : (s.order o).kind = 2 <;> by_cases h3' : kept s.holds o k = 0 <;> simp [h0, h1, h2, h3, h3'] <;> omega
def gotTo (o : Order) (k : Nat) : Bool := (o.lines.take k).all fun x => decide (x.got = x.want)
theorem gotTo_succ {o : Order} {k : Nat} (h : k < o.lines.length) : gotTo o (k + 1) = (gotTo o k && decide ((lineAt o.lines k).got = (lineAt o.lines k).want)) := by
  unfold gotTo
  rw [List.take_succ_eq_append_getElem h, List.all_append, lineAt_eq h]
  simp
theorem gotTo_all (o : Order) : gotTo o o.lines.length = allGot o := by unfold gotTo allGot; rw [List.take_length]

set_option maxHeartbeats 8000000 in
set_option maxRecDepth 100000 in
theorem rSummed (w : World) (v vs : Value) (p : Plan) (s : State) (hp : PlanV w w.heap.size v p) (hv : StateV w w.heap.size vs s) (hs : Sane p s) :
    Calls Try.prog 47 #[v, vs] w fun e w' => e = .returned (.bool (summed p s)) ∧ Below w.heap.size w w' := by
  have hcnt := hs.counts
  have h4 := hs.orders4
  have h72 := ok_len72 hs.holds
  have hsH := Lib.hid hs
  clear hs
  obtain ⟨Ab, cb, As, cs, rfl, hP', hBn, hSz, hlb, hls⟩ := openPl hp
  obtain ⟨A0, c0, A1, c1, A2, c2, A3, c3, A4, c4, A5, c5, A6, c6, rfl, hV, hN, hO, hH, hM, hI, hU, hX, hl0, hl1, hl2, hl3, hl4, hl5, hl6⟩ := openOne hv
  go_enter Try.func47, Try.ntmps47
  go_wp2_with fail
  obtain ⟨W0, hW0, hb0, hsz0, hsz1, hsE, hK⟩ := boxesTwo w p s Ab cb As cs A0 c0 A1 c1 A2 c2 A3 c3 A4 c4 A5 c5 A6 c6
  rw [hW0]
  clear hW0
  obtain ⟨⟨y0, y1⟩, x0, x1, x2, x3, x4, x5, x6, hbz0, hbz1⟩ := hK.out W0 (Below.refl W0.heap.size W0)
  go_loopw [5, 6] (fun i _ wr => ∃ k : Nat, k ≤ p.sizes.length ∧ i = .int .i64 k ∧ (∀ j, j < k → goodSummed p s j = true) ∧ Below W0.heap.size W0 wr) (fun i _ _ => p.sizes.length - (intOf i).toNat)
  case atStart => exact ⟨0, Nat.zero_le _, rfl, fun j hj => by omega, Below.refl _ _⟩
  case round =>
    clear y0 y1 x0 x1 x2 x3 x4 x5 x6 hbz0 hbz1
    obtain ⟨k, hk, rfl, hall, hbw⟩ := hrel
    have hall' := Lib.hid hall
    clear hall
    have hB := hb0.trans (hbw.mono hb0.size)
    obtain ⟨⟨y0, y1⟩, x0, x1, x2, x3, x4, x5, x6, hbz0, hbz1⟩ := hK.out wr (hbw)
    by_cases hlt : k < p.sizes.length
    · have hI4 : k < s.inn.length := by rw [hsH.out.inn.1]; exact hlt
      have hI5 : k < s.out.length := by rw [hsH.out.out.1]; exact hlt
      have hI6 : k < s.fixed.length := by rw [hsH.out.fixed.1]; exact hlt
      obtain ⟨i1, i2⟩ := hsH.out.inn.2 hlt
      obtain ⟨u1, u2⟩ := hsH.out.out.2 hlt
      obtain ⟨f1, f2⟩ := hsH.out.fixed.2 hlt
      obtain ⟨o4, l4, r4⟩ := (hI.out wr hB).at_.int hI4
      obtain ⟨o5, l5, r5⟩ := (hU.out wr hB).at_.int hI5
      obtain ⟨o6, l6, r6⟩ := (hX.out wr hB).at_.int hI6
      have q1 := fun o d os => cells_wld (w := wr) (b := w.heap.size + 1) hbz0 o d os
      have q4 := fun o d os => cells_wld (w := wr) (b := ablk A4) l4 o d os
      have q5 := fun o d os => cells_wld (w := wr) (b := ablk A5) l5 o d os
      have q6 := fun o d os => cells_wld (w := wr) (b := ablk A6) l6 o d os
      have hN2 := Lib.hid (fun d os => hN.out _ (hB.trans ((below_wld wr d os).mono hB.size)))
      have hw1 : IntKind.i64.wrap (intAt s.inn k - intAt s.out k) = intAt s.inn k - intAt s.out k := IntWalk.i64_in _ (by omega)
      have hw2 : IntKind.i64.wrap (intAt s.inn k - intAt s.out k + intAt s.fixed k) = intAt s.inn k - intAt s.out k + intAt s.fixed k := IntWalk.i64_in _ (by omega)
      by_cases hsum : sumOf s.on k = intAt s.inn k - intAt s.out k + intAt s.fixed k
      · have hne : (sumOf s.on k != intAt s.inn k - intAt s.out k + intAt s.fixed k) = false := by simpa using hsum
        have hsum' := Lib.hid hsum
        clear hsum
        go_wp2_with fail
        refine wp_region_wld (by kernel_rfl) (by kernel_rfl) ?_
        repeat (go_big_quiet_step ((go_at_call 48; refine calls_wld_same (rSumOf _ _ p _ k (hN2.out _ _) hsH.out.shelf hlt))))
        refine wpQuiet_nil ?_
        intro W2 hw'
        have hb2 := below_of_cls hw'
        clear hw'
        clear q1 q4 q5 q6 hw1 hw2 hne
        clear y0 y1 x0 x1 x2 x3 x4 x5 x6 hbz0 hbz1
        have hbw2 := hbw.trans (hb2.mono hbw.size)
        have hB2 := hb0.trans (hbw2.mono hb0.size)
        obtain ⟨⟨y0, y1⟩, x0, x1, x2, x3, x4, x5, x6, hbz0, hbz1⟩ := hK.out W2 (hbw2)
        go_wp2_with fail
        go_loopw [6] (fun i wr => ∃ m : Nat, m ≤ p.bins.length ∧ i = .int .i64 m ∧ (∀ j, j < m → bound s j k ≤ cell s.on j k) ∧ Below W0.heap.size W0 wr) (fun i _ => p.bins.length - (intOf i).toNat)
        case atStart => exact ⟨0, Nat.zero_le _, rfl, fun j hj => by omega, hbw2⟩
        case round =>
          clear y0 y1 x0 x1 x2 x3 x4 x5 x6 hbz0 hbz1
          clear r4 r5 r6 hbw hB hb2 hbw2 hB2
          obtain ⟨m, hm, rfl, hallm, hbw⟩ := hrel
          have hallm' := Lib.hid hallm
          clear hallm
          have hB := hb0.trans (hbw.mono hb0.size)
          obtain ⟨⟨y0, y1⟩, x0, x1, x2, x3, x4, x5, x6, hbz0, hbz1⟩ := hK.out wr (hbw)
          by_cases hml : m < p.bins.length
          · have hml' : m < s.on.length := by rw [hsH.out.onLen]; exact hml
            have hkr : k < (rowAt s.on m).length := by rw [hsH.out.rowLen hml]; exact hlt
            obtain ⟨Ar, cr, or0, lr0, rr0, hrow⟩ := (hN.out wr hB).row hml'
            obtain ⟨or1, lr1, rr1⟩ := hrow.at_.int hkr
            have q1 := fun o d os => cells_wld (w := wr) (b := w.heap.size + 1) hbz0 o d os
            have q2 := fun o d os => cells_wld (w := wr) (b := ablk A0) lr0 o d os
            have q3 := fun o d os => cells_wld (w := wr) (b := ablk Ar) lr1 o d os
            have hV2 := Lib.hid (fun d os => hV.out _ (hB.trans ((below_wld wr d os).mono hB.size)))
            have hcl : intAt (rowAt s.on m) k = cell s.on m k := rfl
            have hcl' := Lib.hid hcl
            clear hcl
            by_cases hbd : bound s m k ≤ cell s.on m k
            · have hd : decide (intAt (rowAt s.on m) k < bound s m k) = false := by rw [hcl'.out]; simpa using hbd
              have hbd' := Lib.hid hbd
              clear hbd
              go_wp2_with fail
              refine wp_region_wld (by kernel_rfl) (by kernel_rfl) ?_
              repeat (go_big_quiet_step ((go_at_call 65; refine calls_wld (rBound _ _ p s _ _ (hV2.out _ _) hsH.out))))
              refine wpQuiet_nil ?_
              intro W2 hw'
              have hb2 := below_of_cls hw'
              clear hw'
              clear q1 q2 q3
              go_wp2_with fail
              go_roundw
              case rel =>
                refine ⟨m + 1, by omega, by go_num, fun j hj => ?_, hbw.trans (hb2.mono hbw.size)⟩
                rcases Nat.lt_succ_iff_lt_or_eq.1 hj with h | rfl
                · exact hallm'.out j h
                · exact hbd'.out
              case measure => simp [intOf]; omega
            · have hd : decide (intAt (rowAt s.on m) k < bound s m k) = true := by rw [hcl'.out]; simpa using hbd
              have hfin := Lib.hid (summed_good hlt (goodSummed_bin hml (show cell s.on m k < bound s m k by omega)))
              clear hbd
              go_wp2_with fail
              refine wp_region_wld (by kernel_rfl) (by kernel_rfl) ?_
              repeat (go_big_quiet_step ((go_at_call 65; refine calls_wld (rBound _ _ p s _ _ (hV2.out _ _) hsH.out))))
              refine wpQuiet_nil ?_
              intro W2 hw'
              have hb2 := below_of_cls hw'
              clear hw'
              clear q1 q2 q3
              go_wp2_with fail
              go_ret
              exact ⟨ret_bool (by rw [hfin.out]), hB.trans (hb2.mono hB.size)⟩
          · obtain rfl : m = p.bins.length := by omega
            go_wp2_with fail
            go_roundw
            case rel =>
              refine ⟨k + 1, by omega, by go_num, fun j hj => ?_, hbw⟩
              rcases Nat.lt_succ_iff_lt_or_eq.1 hj with h | rfl
              · exact hall'.out j h
              · exact goodSummed_iff.2 ⟨hsum'.out, hallm'.out⟩
            case measure => simp [intOf]; omega
      · have hne : (sumOf s.on k != intAt s.inn k - intAt s.out k + intAt s.fixed k) = true := by simpa using hsum
        have hfin := Lib.hid (summed_good hlt (goodSummed_sum hsum))
        clear hsum
        go_wp2_with fail
        refine wp_region_wld (by kernel_rfl) (by kernel_rfl) ?_
        repeat (go_big_quiet_step ((go_at_call 48; refine calls_wld_same (rSumOf _ _ p _ k (hN2.out _ _) hsH.out.shelf hlt))))
        refine wpQuiet_nil ?_
        intro W2 hw'
        have hb2 := below_of_cls hw'
        clear hw'
        clear q1 q4 q5 q6 hw1 hw2 hne
        go_wp2_with fail
        go_ret
        exact ⟨ret_bool (by rw [hfin.out]), hB.trans (hb2.mono hB.size)⟩
    · obtain rfl : k = p.sizes.length := by omega
      go_wp2_with fail
      go_loopw [7, 8, 9, 10, 11, 12, 13] (fun i _ _ _ _ _ _ wr => ∃ k : Nat, k ≤ s.orders.length ∧ i = .int .i64 k ∧ (∀ j, j < k → orderSummed s j = true) ∧ Below W0.heap.size W0 wr) (fun i _ _ _ _ _ _ _ => s.orders.length - (intOf i).toNat)
      case atStart => exact ⟨0, Nat.zero_le _, rfl, fun j hj => by omega, hbw⟩
      case round =>
        clear y0 y1 x0 x1 x2 x3 x4 x5 x6 hbz0 hbz1
        clear hbw hB
        obtain ⟨k, hk, rfl, hallo, hbw⟩ := hrel
        have hallo' := Lib.hid hallo
        clear hallo
        have hB := hb0.trans (hbw.mono hb0.size)
        obtain ⟨⟨y0, y1⟩, x0, x1, x2, x3, x4, x5, x6, hbz0, hbz1⟩ := hK.out wr (hbw)
        by_cases hlt : k < s.orders.length
        · obtain ⟨A', c', hok1, hAb1, d0, d1, hsl⟩ := (hO.out wr hB).order hlt
          obtain ⟨l1, l3⟩ := hsH.out.lines3 hlt
          change 1 ≤ (orderAt s.orders k).lines.length at l1
          change (orderAt s.orders k).lines.length ≤ 3 at l3
          go_wp2_with fail
          go_loopw [8, 9] (fun b i wr => ∃ m : Nat, m ≤ (orderAt s.orders k).lines.length ∧ i = .int .i64 m ∧ b = .bool (gotTo (orderAt s.orders k) m) ∧ Below W0.heap.size W0 wr) (fun _ i _ => (orderAt s.orders k).lines.length - (intOf i).toNat)
          case atStart => exact ⟨0, Nat.zero_le _, rfl, rfl, hbw⟩
          case round =>
            clear y0 y1 x0 x1 x2 x3 x4 x5 x6 hbz0 hbz1
            clear hbw hB hok1 hAb1 d0 d1 hsl
            obtain ⟨m, hm, rfl, rfl, hbw⟩ := hrel
            have hB := hb0.trans (hbw.mono hb0.size)
            obtain ⟨⟨y0, y1⟩, x0, x1, x2, x3, x4, x5, x6, hbz0, hbz1⟩ := hK.out wr (hbw)
            obtain ⟨A', c', hok1, hAb1, d0, d1, hsl⟩ := (hO.out wr hB).order hlt
            by_cases hml : m < (orderAt s.orders k).lines.length
            · obtain ⟨hok2, hAb2, e0, e1, e2, e3⟩ := hsl.at_.line hml
              have hsu := gotTo_succ hml
              cases hg : gotTo (orderAt s.orders k) m
              · rw [hg, Bool.false_and] at hsu
                have hsu' := Lib.hid hsu
                clear hsu hg
                go_wp2_with fail
                go_quiet (fail)
                go_wp2_with fail
                go_roundw
                case rel => exact ⟨m + 1, by omega, by go_num, by rw [hsu'.out], below_drewN hbw _⟩
                case measure => simp [intOf]; omega
              · rw [hg, Bool.true_and] at hsu
                by_cases hgw : (lineAt (orderAt s.orders k).lines m).got = (lineAt (orderAt s.orders k).lines m).want
                · have hq : ((lineAt (orderAt s.orders k).lines m).got == (lineAt (orderAt s.orders k).lines m).want) = true := by simpa using hgw
                  rw [decide_eq_true hgw] at hsu
                  have hsu' := Lib.hid hsu
                  clear hsu hg hgw
                  go_wp2_with fail
                  go_quiet (fail)
                  go_wp2_with fail
                  go_roundw
                  case rel => exact ⟨m + 1, by omega, by go_num, by rw [hsu'.out], below_drewN hbw _⟩
                  case measure => simp [intOf]; omega
                · have hq : ((lineAt (orderAt s.orders k).lines m).got == (lineAt (orderAt s.orders k).lines m).want) = false := by simpa using hgw
                  rw [decide_eq_false hgw] at hsu
                  have hsu' := Lib.hid hsu
                  clear hsu hg hgw
                  go_wp2_with fail
                  go_quiet (fail)
                  go_wp2_with fail
                  go_roundw
                  case rel => exact ⟨m + 1, by omega, by go_num, by rw [hsu'.out], below_drewN hbw _⟩
                  case measure => simp [intOf]; omega
            · obtain rfl : m = (orderAt s.orders k).lines.length := by omega
              rw [gotTo_all]
              cases hag : allGot (orderAt s.orders k)
              · have hng := Lib.hid (show ¬ ((s.order k).kind = 1 ∧ allGot (s.order k) = true) by unfold State.order; rw [hag]; simp)
                clear hag
                go_wp2_with fail
                go_loopw [10, 11, 12, 13] (fun i _ _ _ wr => ∃ m : Nat, m ≤ (orderAt s.orders k).lines.length ∧ i = .int .i64 m ∧ (∀ j, j < m → lineSummed s k j = true) ∧ Below W0.heap.size W0 wr) (fun i _ _ _ _ => (orderAt s.orders k).lines.length - (intOf i).toNat)
                case atStart => exact ⟨0, Nat.zero_le _, rfl, fun j hj => by omega, hbw⟩
                case round =>
                  clear y0 y1 x0 x1 x2 x3 x4 x5 x6 hbz0 hbz1
                  clear hbw hB hok1 hAb1 d0 d1 hsl
                  obtain ⟨m, hm, rfl, hallm, hbw⟩ := hrel
                  have hallm' := Lib.hid hallm
                  clear hallm
                  have hB := hb0.trans (hbw.mono hb0.size)
                  obtain ⟨⟨y0, y1⟩, x0, x1, x2, x3, x4, x5, x6, hbz0, hbz1⟩ := hK.out wr (hbw)
                  obtain ⟨A', c', hok1, hAb1, d0, d1, hsl⟩ := (hO.out wr hB).order hlt
                  by_cases hml : m < (orderAt s.orders k).lines.length
                  · obtain ⟨hok2, hAb2, e0, e1, e2, e3⟩ := hsl.at_.line hml
                    have hl : lineAt (orderAt s.orders k).lines m = s.line k m := rfl
                    rw [hl] at e0 e1 e2 e3
                    clear hl
                    obtain ⟨_, ⟨b1, b2⟩, ⟨b3, b4⟩, b5, b6⟩ := hsH.out.line hlt hml
                    obtain ⟨b7, b8⟩ := kept_range hsH.out.holds k m
                    go_wp2_with fail
                    have hBd : Below w.heap.size w wr.drew := hB.drew
                    go_region_held3 (fun w' => w'.cell? ⟨w.heap.size + 1, 1, none⟩ = some (.slice A1 s.orders.length c1) ∧ w'.cell? ⟨w.heap.size + 1, 2, none⟩ = some (.slice A2 s.holds.length c2) ∧ w'.cell? ⟨ablk A1, aoff A1 + k * 2 + 1, none⟩ = some (.slice A' (orderAt s.orders k).lines.length c') ∧
                      w'.cell? ⟨ablk A', aoff A' + m * 4, none⟩ = some (.int .i64 (s.line k m).good) ∧ w'.cell? ⟨ablk A', aoff A' + m * 4 + 1, none⟩ = some (.int .i64 (s.line k m).want) ∧ w'.cell? ⟨ablk A', aoff A' + m * 4 + 2, none⟩ = some (.int .i64 (s.line k m).got) ∧ w'.cell? ⟨ablk A', aoff A' + m * 4 + 3, none⟩ = some (.int .i64 (s.line k m).back)) (first | go_keep)
                      (first
                      | (go_at_call 49; refine (rKeptOf _ _ s.holds k m (hH.out _ hBd) hsH.out.holds).mono ?_; rintro e w' ⟨rfl, rfl⟩)
                      | (go_at_call 49; refine (rKeptOf _ _ s.holds k m (hH.out _ (hBd.alloc hBd.size _)) hsH.out.holds).mono ?_; rintro e w' ⟨rfl, rfl⟩))
                    all_goals
                      have hbw1 : Below W0.heap.size W0 (wr.alloc (.cells #[.int .i64 (s.line k m).good, .int .i64 (s.line k m).want, .int .i64 (s.line k m).got, .int .i64 (s.line k m).back] 75)).drew := (hbw.alloc hbw.size _).drew
                      have hbk1 : ablk A1 < (wr.alloc (.cells #[.int .i64 (s.line k m).good, .int .i64 (s.line k m).want, .int .i64 (s.line k m).got, .int .i64 (s.line k m).back] 75)).drew.heap.size := by simp; omega
                      have hd0 : (wr.alloc (.cells #[.int .i64 (s.line k m).good, .int .i64 (s.line k m).want, .int .i64 (s.line k m).got, .int .i64 (s.line k m).back] 75)).drew.cell? ⟨ablk A1, aoff A1 + k * 2, none⟩ = some (.int .i64 (orderAt s.orders k).kind) := (((Below.refl _ _).alloc (Nat.le_refl _) _).drew.cell (p := ⟨ablk A1, aoff A1 + k * 2, none⟩) hAb1).trans d0
                      have hzl : (wr.alloc (.cells #[.int .i64 (s.line k m).good, .int .i64 (s.line k m).want, .int .i64 (s.line k m).got, .int .i64 (s.line k m).back] 75)).drew.cell? ⟨wr.heap.size, 1, none⟩ = some (.int .i64 (s.line k m).want) ∧ (wr.alloc (.cells #[.int .i64 (s.line k m).good, .int .i64 (s.line k m).want, .int .i64 (s.line k m).got, .int .i64 (s.line k m).back] 75)).drew.cell? ⟨wr.heap.size, 2, none⟩ = some (.int .i64 (s.line k m).got) ∧ (wr.alloc (.cells #[.int .i64 (s.line k m).good, .int .i64 (s.line k m).want, .int .i64 (s.line k m).got, .int .i64 (s.line k m).back] 75)).drew.cell? ⟨wr.heap.size, 3, none⟩ = some (.int .i64 (s.line k m).back) := by simp
                      clear d0 d1 e0 e1 e2 e3
                      clear y0 y1 x0 x1 x2 x3 x4 x5 x6 hbz0 hbz1
                      obtain ⟨⟨y0, y1⟩, x0, x1, x2, x3, x4, x5, x6, _⟩ := hK.out _ hbw1
                      have hbz0 := Nat.lt_of_lt_of_le hsz0 hbw1.size
                      have hbz1 := Nat.lt_of_lt_of_le hsz1 hbw1.size
                      generalize (wr.alloc (.cells #[.int .i64 (s.line k m).good, .int .i64 (s.line k m).want, .int .i64 (s.line k m).got, .int .i64 (s.line k m).back] 75)).drew = Wq at hbw1 hbk1 hd0 hzl y0 y1 x0 x1 x2 x3 x4 x5 x6 hbz0 hbz1 ⊢
                      obtain ⟨z1, z2, z3⟩ := hzl
                      have hparts := line_sumsR s k m b7
                      unfold State.order at hparts
                      rcases hparts with ⟨g1, g2, g3, g4, hf⟩ | ⟨g1, g2, g3, g4, hf⟩ | ⟨g1, g2, g3, hf⟩ | ⟨g1, g2, g3, g4, g5, hf⟩ | ⟨g1, g2, g3, g4, g5, hf⟩ | ⟨g1, g2, g3, g4, hf⟩
                      · have hfin := Lib.hid (summed_order (p := p) hlt (orderSummed_line hml hf))
                        clear hf
                        go_wp2_with fail
                        go_ret
                        exact ⟨ret_bool (by rw [hfin.out]), hb0.trans (hbw1.mono hb0.size)⟩
                      · have hf' := Lib.hid hf
                        clear hf
                        go_wp2_with fail
                        go_roundw
                        case rel =>
                          refine ⟨m + 1, by omega, by go_num, fun j hj => ?_, hbw1⟩
                          rcases Nat.lt_succ_iff_lt_or_eq.1 hj with h | rfl
                          · exact hallm'.out j h
                          · exact hf'.out
                        case measure => simp [intOf]; omega
                      · have hfin := Lib.hid (summed_order (p := p) hlt (orderSummed_line hml hf))
                        clear hf
                        go_wp2_with fail
                        go_ret
                        exact ⟨ret_bool (by rw [hfin.out]), hb0.trans (hbw1.mono hb0.size)⟩
                      · have hfin := Lib.hid (summed_order (p := p) hlt (orderSummed_line hml hf))
                        clear hf
                        go_wp2_with fail
                        go_ret
                        exact ⟨ret_bool (by rw [hfin.out]), hb0.trans (hbw1.mono hb0.size)⟩
                      · have hf' := Lib.hid hf
                        clear hf
                        go_wp2_with fail
                        go_roundw
                        case rel =>
                          refine ⟨m + 1, by omega, by go_num, fun j hj => ?_, hbw1⟩
                          rcases Nat.lt_succ_iff_lt_or_eq.1 hj with h | rfl
                          · exact hallm'.out j h
                          · exact hf'.out
                        case measure => simp [intOf]; omega
                      · have hf' := Lib.hid hf
                        clear hf
                        go_wp2_with fail
                        go_roundw
                        case rel =>
                          refine ⟨m + 1, by omega, by go_num, fun j hj => ?_, hbw1⟩
                          rcases Nat.lt_succ_iff_lt_or_eq.1 hj with h | rfl
                          · exact hallm'.out j h
                          · exact hf'.out
                        case measure => simp [intOf]; omega
                  · obtain rfl : m = (orderAt s.orders k).lines.length := by omega
                    go_wp2_with fail
                    go_roundw
                    case rel =>
                      refine ⟨k + 1, by omega, by go_num, fun j hj => ?_, hbw⟩
                      rcases Nat.lt_succ_iff_lt_or_eq.1 hj with h | rfl
                      · exact hallo'.out j h
                      · exact orderSummed_iff.2 ⟨hng.out, hallm'.out⟩
                    case measure => simp [intOf]; omega
              · by_cases hk1 : (orderAt s.orders k).kind = 1
                · have hq : ((orderAt s.orders k).kind == 1) = true := by simpa using hk1
                  have hfin := Lib.hid (summed_order (p := p) hlt (orderSummed_got (o := k) hk1 hag))
                  clear hk1 hag
                  go_wp2_with fail
                  go_ret
                  exact ⟨ret_bool (by rw [hfin.out]), hB⟩
                · have hq : ((orderAt s.orders k).kind == 1) = false := by simpa using hk1
                  have hng := Lib.hid (show ¬ ((s.order k).kind = 1 ∧ allGot (s.order k) = true) from fun h => hk1 h.1)
                  clear hag hk1
                  go_wp2_with fail
                  clear hq
                  go_loopw [10, 11, 12, 13] (fun i _ _ _ wr => ∃ m : Nat, m ≤ (orderAt s.orders k).lines.length ∧ i = .int .i64 m ∧ (∀ j, j < m → lineSummed s k j = true) ∧ Below W0.heap.size W0 wr) (fun i _ _ _ _ => (orderAt s.orders k).lines.length - (intOf i).toNat)
                  case atStart => exact ⟨0, Nat.zero_le _, rfl, fun j hj => by omega, hbw⟩
                  case round =>
                    clear y0 y1 x0 x1 x2 x3 x4 x5 x6 hbz0 hbz1
                    clear hbw hB hok1 hAb1 d0 d1 hsl
                    obtain ⟨m, hm, rfl, hallm, hbw⟩ := hrel
                    have hallm' := Lib.hid hallm
                    clear hallm
                    have hB := hb0.trans (hbw.mono hb0.size)
                    obtain ⟨⟨y0, y1⟩, x0, x1, x2, x3, x4, x5, x6, hbz0, hbz1⟩ := hK.out wr (hbw)
                    obtain ⟨A', c', hok1, hAb1, d0, d1, hsl⟩ := (hO.out wr hB).order hlt
                    by_cases hml : m < (orderAt s.orders k).lines.length
                    · obtain ⟨hok2, hAb2, e0, e1, e2, e3⟩ := hsl.at_.line hml
                      have hl : lineAt (orderAt s.orders k).lines m = s.line k m := rfl
                      rw [hl] at e0 e1 e2 e3
                      clear hl
                      obtain ⟨_, ⟨b1, b2⟩, ⟨b3, b4⟩, b5, b6⟩ := hsH.out.line hlt hml
                      obtain ⟨b7, b8⟩ := kept_range hsH.out.holds k m
                      go_wp2_with fail
                      have hBd : Below w.heap.size w wr.drew := hB.drew
                      go_region_held3 (fun w' => w'.cell? ⟨w.heap.size + 1, 1, none⟩ = some (.slice A1 s.orders.length c1) ∧ w'.cell? ⟨w.heap.size + 1, 2, none⟩ = some (.slice A2 s.holds.length c2) ∧ w'.cell? ⟨ablk A1, aoff A1 + k * 2 + 1, none⟩ = some (.slice A' (orderAt s.orders k).lines.length c') ∧
                        w'.cell? ⟨ablk A', aoff A' + m * 4, none⟩ = some (.int .i64 (s.line k m).good) ∧ w'.cell? ⟨ablk A', aoff A' + m * 4 + 1, none⟩ = some (.int .i64 (s.line k m).want) ∧ w'.cell? ⟨ablk A', aoff A' + m * 4 + 2, none⟩ = some (.int .i64 (s.line k m).got) ∧ w'.cell? ⟨ablk A', aoff A' + m * 4 + 3, none⟩ = some (.int .i64 (s.line k m).back)) (first | go_keep)
                        (first
                        | (go_at_call 49; refine (rKeptOf _ _ s.holds k m (hH.out _ hBd) hsH.out.holds).mono ?_; rintro e w' ⟨rfl, rfl⟩)
                        | (go_at_call 49; refine (rKeptOf _ _ s.holds k m (hH.out _ (hBd.alloc hBd.size _)) hsH.out.holds).mono ?_; rintro e w' ⟨rfl, rfl⟩))
                      all_goals
                        have hbw1 : Below W0.heap.size W0 (wr.alloc (.cells #[.int .i64 (s.line k m).good, .int .i64 (s.line k m).want, .int .i64 (s.line k m).got, .int .i64 (s.line k m).back] 75)).drew := (hbw.alloc hbw.size _).drew
                        have hbk1 : ablk A1 < (wr.alloc (.cells #[.int .i64 (s.line k m).good, .int .i64 (s.line k m).want, .int .i64 (s.line k m).got, .int .i64 (s.line k m).back] 75)).drew.heap.size := by simp; omega
                        have hd0 : (wr.alloc (.cells #[.int .i64 (s.line k m).good, .int .i64 (s.line k m).want, .int .i64 (s.line k m).got, .int .i64 (s.line k m).back] 75)).drew.cell? ⟨ablk A1, aoff A1 + k * 2, none⟩ = some (.int .i64 (orderAt s.orders k).kind) := (((Below.refl _ _).alloc (Nat.le_refl _) _).drew.cell (p := ⟨ablk A1, aoff A1 + k * 2, none⟩) hAb1).trans d0
                        have hzl : (wr.alloc (.cells #[.int .i64 (s.line k m).good, .int .i64 (s.line k m).want, .int .i64 (s.line k m).got, .int .i64 (s.line k m).back] 75)).drew.cell? ⟨wr.heap.size, 1, none⟩ = some (.int .i64 (s.line k m).want) ∧ (wr.alloc (.cells #[.int .i64 (s.line k m).good, .int .i64 (s.line k m).want, .int .i64 (s.line k m).got, .int .i64 (s.line k m).back] 75)).drew.cell? ⟨wr.heap.size, 2, none⟩ = some (.int .i64 (s.line k m).got) ∧ (wr.alloc (.cells #[.int .i64 (s.line k m).good, .int .i64 (s.line k m).want, .int .i64 (s.line k m).got, .int .i64 (s.line k m).back] 75)).drew.cell? ⟨wr.heap.size, 3, none⟩ = some (.int .i64 (s.line k m).back) := by simp
                        clear d0 d1 e0 e1 e2 e3
                        clear y0 y1 x0 x1 x2 x3 x4 x5 x6 hbz0 hbz1
                        obtain ⟨⟨y0, y1⟩, x0, x1, x2, x3, x4, x5, x6, _⟩ := hK.out _ hbw1
                        have hbz0 := Nat.lt_of_lt_of_le hsz0 hbw1.size
                        have hbz1 := Nat.lt_of_lt_of_le hsz1 hbw1.size
                        generalize (wr.alloc (.cells #[.int .i64 (s.line k m).good, .int .i64 (s.line k m).want, .int .i64 (s.line k m).got, .int .i64 (s.line k m).back] 75)).drew = Wq at hbw1 hbk1 hd0 hzl y0 y1 x0 x1 x2 x3 x4 x5 x6 hbz0 hbz1 ⊢
                        obtain ⟨z1, z2, z3⟩ := hzl
                        have hparts := line_sumsR s k m b7
                        unfold State.order at hparts
                        rcases hparts with ⟨g1, g2, g3, g4, hf⟩ | ⟨g1, g2, g3, g4, hf⟩ | ⟨g1, g2, g3, hf⟩ | ⟨g1, g2, g3, g4, g5, hf⟩ | ⟨g1, g2, g3, g4, g5, hf⟩ | ⟨g1, g2, g3, g4, hf⟩
                        · have hfin := Lib.hid (summed_order (p := p) hlt (orderSummed_line hml hf))
                          clear hf
                          go_wp2_with fail
                          go_ret
                          exact ⟨ret_bool (by rw [hfin.out]), hb0.trans (hbw1.mono hb0.size)⟩
                        · have hf' := Lib.hid hf
                          clear hf
                          go_wp2_with fail
                          go_roundw
                          case rel =>
                            refine ⟨m + 1, by omega, by go_num, fun j hj => ?_, hbw1⟩
                            rcases Nat.lt_succ_iff_lt_or_eq.1 hj with h | rfl
                            · exact hallm'.out j h
                            · exact hf'.out
                          case measure => simp [intOf]; omega
                        · have hfin := Lib.hid (summed_order (p := p) hlt (orderSummed_line hml hf))
                          clear hf
                          go_wp2_with fail
                          go_ret
                          exact ⟨ret_bool (by rw [hfin.out]), hb0.trans (hbw1.mono hb0.size)⟩
                        · have hfin := Lib.hid (summed_order (p := p) hlt (orderSummed_line hml hf))
                          clear hf
                          go_wp2_with fail
                          go_ret
                          exact ⟨ret_bool (by rw [hfin.out]), hb0.trans (hbw1.mono hb0.size)⟩
                        · have hf' := Lib.hid hf
                          clear hf
                          go_wp2_with fail
                          go_roundw
                          case rel =>
                            refine ⟨m + 1, by omega, by go_num, fun j hj => ?_, hbw1⟩
                            rcases Nat.lt_succ_iff_lt_or_eq.1 hj with h | rfl
                            · exact hallm'.out j h
                            · exact hf'.out
                          case measure => simp [intOf]; omega
                        · have hf' := Lib.hid hf
                          clear hf
                          go_wp2_with fail
                          go_roundw
                          case rel =>
                            refine ⟨m + 1, by omega, by go_num, fun j hj => ?_, hbw1⟩
                            rcases Nat.lt_succ_iff_lt_or_eq.1 hj with h | rfl
                            · exact hallm'.out j h
                            · exact hf'.out
                          case measure => simp [intOf]; omega
                    · obtain rfl : m = (orderAt s.orders k).lines.length := by omega
                      go_wp2_with fail
                      go_roundw
                      case rel =>
                        refine ⟨k + 1, by omega, by go_num, fun j hj => ?_, hbw⟩
                        rcases Nat.lt_succ_iff_lt_or_eq.1 hj with h | rfl
                        · exact hallo'.out j h
                        · exact orderSummed_iff.2 ⟨hng.out, hallm'.out⟩
                      case measure => simp [intOf]; omega
        · obtain rfl : k = s.orders.length := by omega
          have hfin := Lib.hid (summed_iff.2 ⟨hall'.out, hallo'.out⟩)
          go_wp2_with fail
          go_ret
          exact ⟨ret_bool (by rw [hfin.out]), hB⟩
end Wh
