/- Texts of the claim, joined: StateB, StateC. -/
import Derived.Test.YtnjgkhcnialplaaP14
import Derived.Test.YtnjgkhcnialplaaP15
import Derived.Test.YtnjgkhcnialplaaP22
namespace Wh
open Go Go.RowKit Go.Shelf Go.Proofs
attribute [local go_sem] run_indexAt_letter

theorem line_parts (p : Plan) (x : Line) : (isGood p x.good = false ∧ lineOk p x = false) ∨ (isGood p x.good = true ∧ x.want < 1 ∧ lineOk p x = false) ∨ (isGood p x.good = true ∧ 1 ≤ x.want ∧ 200 < x.want ∧ lineOk p x = false) ∨
    (isGood p x.good = true ∧ 1 ≤ x.want ∧ x.want ≤ 200 ∧ x.got < 0 ∧ lineOk p x = false) ∨ (isGood p x.good = true ∧ 1 ≤ x.want ∧ x.want ≤ 200 ∧ 0 ≤ x.got ∧ x.want < x.got ∧ lineOk p x = false) ∨
    (isGood p x.good = true ∧ 1 ≤ x.want ∧ x.want ≤ 200 ∧ 0 ≤ x.got ∧ x.got ≤ x.want ∧ x.back < 0 ∧ lineOk p x = false) ∨ (isGood p x.good = true ∧ 1 ≤ x.want ∧ x.want ≤ 200 ∧ 0 ≤ x.got ∧ x.got ≤ x.want ∧ 0 ≤ x.back ∧ x.want < x.back ∧ lineOk p x = false) ∨
    (isGood p x.good = true ∧ 1 ≤ x.want ∧ x.want ≤ 200 ∧ 0 ≤ x.got ∧ x.got ≤ x.want ∧ 0 ≤ x.back ∧ x.back ≤ x.want ∧ lineOk p x = true) := by
  have h1 := @lineOk_iff p x
  have h2 := @isGood_iff p x.good
  cases hl : lineOk p x <;> cases hg : isGood p x.good <;> simp only [hl, hg, Bool.false_eq_true, false_iff, true_iff] at h1 h2 <;> simp only [reduceCtorEq, true_and, and_true, false_and, and_false, or_false, false_or] <;> omega

set_option maxHeartbeats 4000000 in
theorem sLine (w : World) (v : Value) (p : Plan) (x : Line) (hp : PlanV w w.heap.size v p) (hz : checkPlan p = 0) :
    Calls Try.prog 90 #[v, vLine x] w fun e w' => e = .returned (.bool (lineOk p x)) ∧ Below w.heap.size w w' := by
  have hP := hp
  obtain ⟨_, _, rfl, ⟨Ab, cb, rfl, hlb, hb⟩, ⟨As, cs, rfl, hls, hs⟩⟩ := hp
  have hb1 : isBin p 0 = true := isBin_iff.2 (by have := right_counts hz; omega)
  have hb0 : Below w.heap.size w ((w.alloc (.cells #[.slice Ab p.bins.length cb, .slice As p.sizes.length cs] 25)).alloc (.cells #[.int .i64 (x).good, .int .i64 (x).want, .int .i64 (x).got, .int .i64 (x).back] 75)) := ((Below.refl _ _).alloc (Nat.le_refl _) _).alloc (by simp) _
  unfold vLine
  rcases line_parts p x with ⟨g1, hf⟩ | ⟨g1, g2, hf⟩ | ⟨g1, g2, g3, hf⟩ | ⟨g1, g2, g3, g4, hf⟩ | ⟨g1, g2, g3, g4, g5, hf⟩ | ⟨g1, g2, g3, g4, g5, g6, hf⟩ | ⟨g1, g2, g3, g4, g5, g6, g7, hf⟩ | ⟨g1, g2, g3, g4, g5, g6, g7, hf⟩
  all_goals
    have hth : (isBin p 0 && isGood p x.good) = (isGood p x.good) := by rw [hb1]; rfl
    have hth' := Lib.hid hth
    clear hth
    have hf' := Lib.hid hf
    clear hf
    go_enter Try.func90, Try.ntmps90
    go_wp2_with fail
    refine (shThere _ _ p 0 x.good (hP.grow hb0)).mono ?_
    rintro e W1 ⟨rfl, hc1⟩
    have hB := hb0.trans (hc1.mono hb0.size)
    obtain ⟨ha1, hf1⟩ := bcell hc1
    rw [hth'.out, g1]
    go_wp2_with fail
    go_ret
    exact ⟨ret_bool (by rw [hf'.out] <;> first | rfl | (simp <;> omega)), hB⟩

set_option maxHeartbeats 2000000 in
theorem sSums (w : World) (v vl : Value) (p : Plan) (l : List Int) (lo : Int) (hp : PlanV w w.heap.size v p) (hl : Sl cInt w w.heap.size vl l) (hz : checkPlan p = 0) :
    Calls Try.prog 97 #[v, vl, .int .i64 lo] w fun e w' => e = .returned (.bool (sumsOk p l lo)) ∧ Below w.heap.size w w' := by
  have hP := hp
  obtain ⟨_, _, rfl, ⟨Ab, cb, rfl, hlb, hb⟩, ⟨As, cs, rfl, hls, hs⟩⟩ := hp
  have hL := hl
  obtain ⟨A, c, rfl, hll, hA⟩ := hl
  have hcnt := right_counts hz
  have hb0 : Below w.heap.size w (w.alloc (.cells #[.slice Ab p.bins.length cb, .slice As p.sizes.length cs] 25)) := (Below.refl _ _).alloc (Nat.le_refl _) _
  rcases sumsOk_bad (p := p) l lo (by omega) with ⟨h1, h⟩ | ⟨h1, h2, h⟩ | ⟨h1, h2, h3, h⟩ | ⟨h1, h2, h3, h⟩
  · have hne : ((l.length : Int) == (p.sizes.length : Int)) = false := by simp; omega
    have h' := Lib.hid h
    clear h h1
    go_enter Try.func97, Try.ntmps97
    go_wp2_with fail
    go_ret
    exact ⟨ret_bool (by rw [h'.out]), hb0⟩
  all_goals
    have hne : ((l.length : Int) == (p.sizes.length : Int)) = true := by simp; omega
    have hpos : 0 < l.length := by omega
    have h' := Lib.hid h
    clear h h1
    go_enter Try.func97, Try.ntmps97
    go_wp2_with (first | (go_at_call 84; refine (slMin _ _ l (hL.grow hb0) hpos).mono ?_; rintro e w' ⟨rfl, rfl⟩) | (go_at_call 85; refine (slMax _ _ l (hL.grow hb0) hpos).mono ?_; rintro e w' ⟨rfl, rfl⟩))
    go_ret
    exact ⟨ret_bool (by rw [h'.out] <;> first | rfl | (simp <;> omega)), hb0⟩

set_option maxHeartbeats 1000000 in
/-- formed's first closure: a line that may not be. -/
theorem sBadLine (p : Plan) (x : Line) (W : World) (B : Nat) (hz : checkPlan p = 0) (Ab As : Option Addr) (cb cs : Nat) (h0 : W.cell? ⟨B, 0, none⟩ = some (.slice Ab p.bins.length cb)) (h1 : W.cell? ⟨B, 1, none⟩ = some (.slice As p.sizes.length cs)) (hB : B < W.heap.size)
    (hP : PlanV W W.heap.size (.agg #[.slice Ab p.bins.length cb, .slice As p.sizes.length cs]) p) :
    Calls Try.prog 89 #[vLine x, .pointer (some ⟨B, 0, none⟩)] W fun e W' => e = .returned (.bool (!lineOk p x)) ∧ Below W.heap.size W W' := by
  have hb0 : Below W.heap.size W (W.alloc (.cells #[.int .i64 (x).good, .int .i64 (x).want, .int .i64 (x).got, .int .i64 (x).back] 75)) := (Below.refl _ _).alloc (Nat.le_refl _) _
  have hz' := Lib.hid hz
  clear hz
  unfold vLine
  go_enter Try.func89, Try.ntmps89
  go_wp2_with fail
  refine (sLine _ _ p x (hP.grow hb0) hz'.out).mono ?_
  rintro e W1 ⟨rfl, hc1⟩
  go_wp2_with fail
  go_ret
  exact ⟨rfl, hb0.trans (hc1.mono hb0.size)⟩
theorem entersBadLine : Enters Try.prog 89 := enters_of Try.func89 (by kernel_rfl) rfl

theorem holdIn_parts (p : Plan) (s : State) (h : Hold) : ((s.orders.length : Int) ≤ h.order ∧ holdIn p s h = false) ∨ (h.order < s.orders.length ∧ ((s.order h.order.toNat).lines.length : Int) ≤ h.line ∧ holdIn p s h = false) ∨
    (h.order < s.orders.length ∧ h.line < (s.order h.order.toNat).lines.length ∧ (p.bins.length : Int) ≤ h.bin ∧ holdIn p s h = false) ∨ (h.order < s.orders.length ∧ h.line < (s.order h.order.toNat).lines.length ∧ h.bin < p.bins.length ∧ holdIn p s h = true) := by
  have h1 := @holdIn_iff p s h
  cases hl : holdIn p s h <;> simp only [hl, Bool.false_eq_true, false_iff, true_iff] at h1 <;> simp only [reduceCtorEq, and_true, and_false, or_false, false_or] <;> omega

set_option maxHeartbeats 4000000 in
/-- formed's second closure: is there such a line, and such a bin? -/
theorem sHoldIn (p : Plan) (s : State) (h : Hold) (W : World) (Bs Bp : Nat) (A1 Ab : Option Addr) (c1 cb : Nat) (hs1 : W.cell? ⟨Bs, 1, none⟩ = some (.slice A1 s.orders.length c1)) (hp0 : W.cell? ⟨Bp, 0, none⟩ = some (.slice Ab p.bins.length cb)) (hBs : Bs < W.heap.size) (hBp : Bp < W.heap.size)
    (hO : SlOrders W W.heap.size (.slice A1 s.orders.length c1) s.orders) (h0 : 0 ≤ h.order) (h72 : s.orders.length ≤ 1000) (hl72 : ∀ o, o < s.orders.length → (orderAt s.orders o).lines.length ≤ 1000) :
    Calls Try.prog 91 #[vHold h, .pointer (some ⟨Bs, 0, none⟩), .pointer (some ⟨Bp, 0, none⟩)] W fun e W' => e = .returned (.bool (holdIn p s h)) ∧ Below W.heap.size W W' := by
  have hb0 : Below W.heap.size W (W.alloc (.cells #[.int .i64 (h).order, .int .i64 (h).line, .int .i64 (h).bin, .int .i64 (h).n] 87)) := (Below.refl _ _).alloc (Nat.le_refl _) _
  have hlW : W.heap.size < (W.alloc (.cells #[.int .i64 (h).order, .int .i64 (h).line, .int .i64 (h).bin, .int .i64 (h).n] 87)).heap.size := by simp
  have q0 := fun o d os => cells_wld (w := W.alloc (.cells #[.int .i64 (h).order, .int .i64 (h).line, .int .i64 (h).bin, .int .i64 (h).n] 87)) (b := Bs) (by simp; omega) o d os
  have q1 := fun o d os => cells_wld (w := W.alloc (.cells #[.int .i64 (h).order, .int .i64 (h).line, .int .i64 (h).bin, .int .i64 (h).n] 87)) (b := Bp) (by simp; omega) o d os
  have q2 := fun o d os => cells_wld (w := W.alloc (.cells #[.int .i64 (h).order, .int .i64 (h).line, .int .i64 (h).bin, .int .i64 (h).n] 87)) (b := W.heap.size) hlW o d os
  unfold vHold
  rcases holdIn_parts p s h with ⟨g1, hf⟩ | ⟨g1, g2, hf⟩ | ⟨g1, g2, g3, hf⟩ | ⟨g1, g2, g3, hf⟩
  · have hf' := Lib.hid hf
    have d1 : decide (h.order < (s.orders.length : Int)) = false := by simpa using g1
    clear hf hl72
    go_enter Try.func91, Try.ntmps91
    go_wp2_with fail
    refine wp_region_wld (by kernel_rfl) (by kernel_rfl) ?_
    repeat (go_big_quiet_step (fail))
    refine wpQuiet_nil ?_
    intro W2 hw'
    have hb2 := below_of_cls hw'
    clear hw'
    go_wp2_with fail
    go_ret
    exact ⟨ret_bool (by rw [hf'.out]), hb0.trans (hb2.mono hb0.size)⟩
  · have hf' := Lib.hid hf
    have hol : h.order.toNat < s.orders.length := by omega
    obtain ⟨A', c', hok1, hAb1, _, e1, hsl⟩ := hO.order hol
    have hll := hl72 _ hol
    unfold State.order at g2
    have q3 := fun o d os => cells_wld (w := W.alloc (.cells #[.int .i64 (h).order, .int .i64 (h).line, .int .i64 (h).bin, .int .i64 (h).n] 87)) (b := ablk A1) (by simp; omega) o d os
    have d1 : decide (h.order < (s.orders.length : Int)) = true := by simpa using g1
    have d2 : decide (h.line < ((orderAt s.orders h.order.toNat).lines.length : Int)) = false := by simpa using g2
    clear hf hl72
    go_enter Try.func91, Try.ntmps91
    go_wp2_with fail
    refine wp_region_wld (by kernel_rfl) (by kernel_rfl) ?_
    repeat (go_big_quiet_step (fail))
    refine wpQuiet_nil ?_
    intro W2 hw'
    have hb2 := below_of_cls hw'
    clear hw'
    go_wp2_with fail
    go_ret
    exact ⟨ret_bool (by rw [hf'.out] <;> first | rfl | (simp <;> omega)), hb0.trans (hb2.mono hb0.size)⟩
  · have hf' := Lib.hid hf
    have hol : h.order.toNat < s.orders.length := by omega
    obtain ⟨A', c', hok1, hAb1, _, e1, hsl⟩ := hO.order hol
    have hll := hl72 _ hol
    unfold State.order at g2
    have q3 := fun o d os => cells_wld (w := W.alloc (.cells #[.int .i64 (h).order, .int .i64 (h).line, .int .i64 (h).bin, .int .i64 (h).n] 87)) (b := ablk A1) (by simp; omega) o d os
    have d1 : decide (h.order < (s.orders.length : Int)) = true := by simpa using g1
    have d2 : decide (h.line < ((orderAt s.orders h.order.toNat).lines.length : Int)) = true := by simpa using g2
    have d3 : decide (h.bin < (p.bins.length : Int)) = false := by simpa using g3
    clear hf hl72
    go_enter Try.func91, Try.ntmps91
    go_wp2_with fail
    refine wp_region_wld (by kernel_rfl) (by kernel_rfl) ?_
    repeat (go_big_quiet_step (fail))
    refine wpQuiet_nil ?_
    intro W2 hw'
    have hb2 := below_of_cls hw'
    clear hw'
    go_wp2_with fail
    go_ret
    exact ⟨ret_bool (by rw [hf'.out] <;> first | rfl | (simp <;> omega)), hb0.trans (hb2.mono hb0.size)⟩
  · have hf' := Lib.hid hf
    have hol : h.order.toNat < s.orders.length := by omega
    obtain ⟨A', c', hok1, hAb1, _, e1, hsl⟩ := hO.order hol
    have hll := hl72 _ hol
    unfold State.order at g2
    have q3 := fun o d os => cells_wld (w := W.alloc (.cells #[.int .i64 (h).order, .int .i64 (h).line, .int .i64 (h).bin, .int .i64 (h).n] 87)) (b := ablk A1) (by simp; omega) o d os
    have d1 : decide (h.order < (s.orders.length : Int)) = true := by simpa using g1
    have d2 : decide (h.line < ((orderAt s.orders h.order.toNat).lines.length : Int)) = true := by simpa using g2
    have d3 : decide (h.bin < (p.bins.length : Int)) = true := by simpa using g3
    clear hf hl72
    go_enter Try.func91, Try.ntmps91
    go_wp2_with fail
    refine wp_region_wld (by kernel_rfl) (by kernel_rfl) ?_
    repeat (go_big_quiet_step (fail))
    refine wpQuiet_nil ?_
    intro W2 hw'
    have hb2 := below_of_cls hw'
    clear hw'
    go_wp2_with fail
    go_ret
    exact ⟨ret_bool (by rw [hf'.out] <;> first | rfl | (simp <;> omega)), hb0.trans (hb2.mono hb0.size)⟩
theorem entersHoldIn : Enters Try.prog 91 := enters_of Try.func91 (by kernel_rfl) rfl
end Wh
namespace Wh
open Go Go.RowKit Go.Shelf Go.Proofs
attribute [local go_sem] run_indexAt_letter

theorem move_parts (p : Plan) (x : Move) : ((isBin p x.src && isGood p x.good) = false ∧ moveOk p x = false) ∨ ((isBin p x.src && isGood p x.good) = true ∧ (isBin p x.dst && isGood p x.good) = false ∧ moveOk p x = false) ∨
    ((isBin p x.src && isGood p x.good) = true ∧ (isBin p x.dst && isGood p x.good) = true ∧ (x.src != x.dst) = false ∧ moveOk p x = false) ∨
    ((isBin p x.src && isGood p x.good) = true ∧ (isBin p x.dst && isGood p x.good) = true ∧ (x.src != x.dst) = true ∧ x.n < 1 ∧ moveOk p x = false) ∨
    ((isBin p x.src && isGood p x.good) = true ∧ (isBin p x.dst && isGood p x.good) = true ∧ (x.src != x.dst) = true ∧ 1 ≤ x.n ∧ 200 < x.n ∧ moveOk p x = false) ∨
    ((isBin p x.src && isGood p x.good) = true ∧ (isBin p x.dst && isGood p x.good) = true ∧ (x.src != x.dst) = true ∧ 1 ≤ x.n ∧ x.n ≤ 200 ∧ moveOk p x = true) := by
  unfold moveOk
  have hw := @within_iff x.n 1 200
  cases isBin p x.src <;> cases isGood p x.good <;> cases isBin p x.dst <;> by_cases h : x.src = x.dst <;> cases hq : within x.n 1 200 <;> simp [h, hq] at hw ⊢ <;> omega

set_option maxHeartbeats 4000000 in
theorem sMoveOk (p : Plan) (x : Move) (W : World) (B : Nat) (Ab As : Option Addr) (cb cs : Nat) (h0 : W.cell? ⟨B, 0, none⟩ = some (.slice Ab p.bins.length cb)) (h1 : W.cell? ⟨B, 1, none⟩ = some (.slice As p.sizes.length cs)) (hB : B < W.heap.size)
    (hP : PlanV W W.heap.size (.agg #[.slice Ab p.bins.length cb, .slice As p.sizes.length cs]) p) :
    Calls Try.prog 92 #[vMove x, .pointer (some ⟨B, 0, none⟩)] W fun e W' => e = .returned (.bool (moveOk p x)) ∧ Below W.heap.size W W' := by
  have hb0 : Below W.heap.size W (W.alloc (.cells #[.int .i64 (x).good, .int .i64 (x).src, .int .i64 (x).dst, .int .i64 (x).n] 92)) := (Below.refl _ _).alloc (Nat.le_refl _) _
  have hBl : B < (W.alloc (.cells #[.int .i64 (x).good, .int .i64 (x).src, .int .i64 (x).dst, .int .i64 (x).n] 92)).heap.size := by simp; omega
  unfold vMove
  rcases move_parts p x with ⟨g1, hf⟩ | ⟨g1, g2, hf⟩ | ⟨g1, g2, g3, hf⟩ | ⟨g1, g2, g3, g4, hf⟩ | ⟨g1, g2, g3, g4, g5, hf⟩ | ⟨g1, g2, g3, g4, g5, hf⟩
  · have hf' := Lib.hid hf
    have g1' := Lib.hid g1
    clear hf g1
    go_enter Try.func92, Try.ntmps92
    go_wp2_with fail
    refine (shThere _ _ p x.src x.good (hP.grow hb0)).mono ?_
    rintro e W1 ⟨rfl, hc1⟩
    rw [g1'.out]
    go_wp2_with fail
    go_ret
    exact ⟨ret_bool (by rw [hf'.out]), hb0.trans (hc1.mono hb0.size)⟩
  all_goals
    have hf' := Lib.hid hf
    have g1' := Lib.hid g1
    have g2' := Lib.hid g2
    clear hf g1 g2
    go_enter Try.func92, Try.ntmps92
    go_wp2_with fail
    refine (shThere _ _ p x.src x.good (hP.grow hb0)).mono ?_
    rintro e W1 ⟨rfl, hc1⟩
    have hb01 := hb0.trans (hc1.mono hb0.size)
    obtain ⟨hd1, hf1⟩ := bcell hc1
    rw [g1'.out]
    go_wp2_with fail
    refine (shThere _ _ p x.dst x.good (hP.grow hb01)).mono ?_
    rintro e W2 ⟨rfl, hc2⟩
    have hc12 := hc1.trans (hc2.mono hc1.size)
    obtain ⟨hd2, hf2⟩ := bcell hc12
    clear hd1 hf1
    rw [g2'.out]
    go_wp2_with fail
    go_ret
    exact ⟨ret_bool (by rw [hf'.out] <;> first | rfl | (simp <;> omega)), hb0.trans (hc12.mono hb0.size)⟩

set_option maxHeartbeats 1000000 in
/-- formed's closures over closures. -/
theorem sBadHold (p : Plan) (s : State) (h : Hold) (W : World) (Bc Bs Bp : Nat) (A1 Ab : Option Addr) (c1 cb : Nat) (hc : W.cell? ⟨Bc, 0, none⟩ = some (.func (.func 91) #[] #[.pointer (some ⟨Bs, 0, none⟩), .pointer (some ⟨Bp, 0, none⟩)])) (hBc : Bc < W.heap.size)
    (hs1 : W.cell? ⟨Bs, 1, none⟩ = some (.slice A1 s.orders.length c1)) (hp0 : W.cell? ⟨Bp, 0, none⟩ = some (.slice Ab p.bins.length cb)) (hBs : Bs < W.heap.size) (hBp : Bp < W.heap.size)
    (hO : SlOrders W W.heap.size (.slice A1 s.orders.length c1) s.orders) (h0 : 0 ≤ h.order) (h72 : s.orders.length ≤ 1000) (hl72 : ∀ o, o < s.orders.length → (orderAt s.orders o).lines.length ≤ 1000) :
    Calls Try.prog 94 #[vHold h, .pointer (some ⟨Bc, 0, none⟩)] W fun e W' => e = .returned (.bool (!holdIn p s h)) ∧ Below W.heap.size W W' := by
  have hb0 : Below W.heap.size W (W.alloc (.cells #[.int .i64 (h).order, .int .i64 (h).line, .int .i64 (h).bin, .int .i64 (h).n] 87)) := (Below.refl _ _).alloc (Nat.le_refl _) _
  have hl' := Lib.hid hl72
  have r1 : (W.alloc (.cells #[.int .i64 (h).order, .int .i64 (h).line, .int .i64 (h).bin, .int .i64 (h).n] 87)).cell? ⟨Bs, 1, none⟩ = some (.slice A1 s.orders.length c1) := (hb0.cell (p := ⟨Bs, 1, none⟩) hBs).trans hs1
  have r2 : (W.alloc (.cells #[.int .i64 (h).order, .int .i64 (h).line, .int .i64 (h).bin, .int .i64 (h).n] 87)).cell? ⟨Bp, 0, none⟩ = some (.slice Ab p.bins.length cb) := (hb0.cell (p := ⟨Bp, 0, none⟩) hBp).trans hp0
  have H := Lib.hid (sHoldIn p s h (W.alloc (.cells #[.int .i64 (h).order, .int .i64 (h).line, .int .i64 (h).bin, .int .i64 (h).n] 87)) Bs Bp A1 Ab c1 cb r1 r2 (by simp; omega) (by simp; omega) (hO.up hb0 hb0.size) h0 h72 hl72)
  clear hl72 r1 r2
  unfold vHold
  go_enter Try.func94, Try.ntmps94
  go_wp2_with fail
  refine H.out.mono ?_
  rintro e W1 ⟨rfl, hc1⟩
  go_wp2_with fail
  go_ret
  exact ⟨rfl, hb0.trans (hc1.mono hb0.size)⟩
theorem entersBadHold : Enters Try.prog 94 := enters_of Try.func94 (by kernel_rfl) rfl

set_option maxHeartbeats 1000000 in
theorem sBadMove (p : Plan) (x : Move) (W : World) (Bc B : Nat) (Ab As : Option Addr) (cb cs : Nat) (hc : W.cell? ⟨Bc, 0, none⟩ = some (.func (.func 92) #[] #[.pointer (some ⟨B, 0, none⟩)])) (hBc : Bc < W.heap.size)
    (h0 : W.cell? ⟨B, 0, none⟩ = some (.slice Ab p.bins.length cb)) (h1 : W.cell? ⟨B, 1, none⟩ = some (.slice As p.sizes.length cs)) (hB : B < W.heap.size)
    (hP : PlanV W W.heap.size (.agg #[.slice Ab p.bins.length cb, .slice As p.sizes.length cs]) p) :
    Calls Try.prog 96 #[vMove x, .pointer (some ⟨Bc, 0, none⟩)] W fun e W' => e = .returned (.bool (!moveOk p x)) ∧ Below W.heap.size W W' := by
  have hb0 : Below W.heap.size W (W.alloc (.cells #[.int .i64 (x).good, .int .i64 (x).src, .int .i64 (x).dst, .int .i64 (x).n] 92)) := (Below.refl _ _).alloc (Nat.le_refl _) _
  have r1 : (W.alloc (.cells #[.int .i64 (x).good, .int .i64 (x).src, .int .i64 (x).dst, .int .i64 (x).n] 92)).cell? ⟨B, 0, none⟩ = some (.slice Ab p.bins.length cb) := (hb0.cell (p := ⟨B, 0, none⟩) hB).trans h0
  have r2 : (W.alloc (.cells #[.int .i64 (x).good, .int .i64 (x).src, .int .i64 (x).dst, .int .i64 (x).n] 92)).cell? ⟨B, 1, none⟩ = some (.slice As p.sizes.length cs) := (hb0.cell (p := ⟨B, 1, none⟩) hB).trans h1
  have H := Lib.hid (sMoveOk p x (W.alloc (.cells #[.int .i64 (x).good, .int .i64 (x).src, .int .i64 (x).dst, .int .i64 (x).n] 92)) B Ab As cb cs r1 r2 (by simp; omega) (hP.grow hb0))
  clear r1 r2
  unfold vMove
  go_enter Try.func96, Try.ntmps96
  go_wp2_with fail
  refine H.out.mono ?_
  rintro e W1 ⟨rfl, hc1⟩
  go_wp2_with fail
  go_ret
  exact ⟨rfl, hb0.trans (hc1.mono hb0.size)⟩
theorem entersBadMove : Enters Try.prog 96 := enters_of Try.func96 (by kernel_rfl) rfl

set_option maxHeartbeats 1000000 in
/-- Check's closure: too few lines, or too many. -/
theorem sBadOrder (o : Order) (u : Value) (W : World) (hu : Sl cLine W W.heap.size u o.lines) :
    Calls Try.prog 56 #[.agg #[.int .i64 o.kind, u]] W fun e W' => e = .returned (.bool (!within o.lines.length 1 3)) ∧ Below W.heap.size W W' := by
  obtain ⟨A, c, rfl, hl, hA⟩ := hu
  have hb0 : Below W.heap.size W (W.alloc (.cells #[.int .i64 o.kind, .slice A o.lines.length c] 73)) := (Below.refl _ _).alloc (Nat.le_refl _) _
  have hp : (o.lines.length < 1 ∧ within o.lines.length 1 3 = false) ∨ (1 ≤ o.lines.length ∧ 3 < o.lines.length ∧ within o.lines.length 1 3 = false) ∨ (1 ≤ o.lines.length ∧ o.lines.length ≤ 3 ∧ within o.lines.length 1 3 = true) := by
    have h1 := @within_iff o.lines.length 1 3
    cases hq : within o.lines.length 1 3 <;> simp only [hq, Bool.false_eq_true, false_iff, true_iff] at h1 <;> simp only [reduceCtorEq, and_true, and_false, or_false, false_or] <;> omega
  rcases hp with ⟨g1, hf⟩ | ⟨g1, g2, hf⟩ | ⟨g1, g2, hf⟩
  all_goals
    have hf' := Lib.hid hf
    clear hf
    go_enter Try.func56, Try.ntmps56
    go_wp2_with fail
    go_ret
    exact ⟨ret_bool (by rw [hf'.out] <;> first | rfl | (simp <;> omega)), hb0⟩
theorem entersBadOrder : Enters Try.prog 56 := enters_of Try.func56 (by kernel_rfl) rfl
end Wh
