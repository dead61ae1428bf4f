/- Texts of the claim, joined: StateB, StateC, StateD. -/
import Derived.Laws.EntriesVeiled
import Derived.Test.YtbmklcloknpniaaQ06
import Derived.Test.YtbmklcloknpniaaQ08
namespace Wh
open Go Go.RowKit Go.Shelf Go.Proofs
attribute [local go_sem] run_indexAt_letter

theorem line_parts (p : Plan) (x : Line) : (isGood p x.good = false ∧ lineOk p x = false) ∨ (isGood p x.good = true ∧ x.want < 1 ∧ lineOk p x = false) ∨ (isGood p x.good = true ∧ 1 ≤ x.want ∧ 200 < x.want ∧ lineOk p x = false) ∨
    (isGood p x.good = true ∧ 1 ≤ x.want ∧ x.want ≤ 200 ∧ x.got < 0 ∧ lineOk p x = false) ∨ (isGood p x.good = true ∧ 1 ≤ x.want ∧ x.want ≤ 200 ∧ 0 ≤ x.got ∧ x.want < x.got ∧ lineOk p x = false) ∨
    (isGood p x.good = true ∧ 1 ≤ x.want ∧ x.want ≤ 200 ∧ 0 ≤ x.got ∧ x.got ≤ x.want ∧ x.back < 0 ∧ lineOk p x = false) ∨ (isGood p x.good = true ∧ 1 ≤ x.want ∧ x.want ≤ 200 ∧ 0 ≤ x.got ∧ x.got ≤ x.want ∧ 0 ≤ x.back ∧ x.want < x.back ∧ lineOk p x = false) ∨
    (isGood p x.good = true ∧ 1 ≤ x.want ∧ x.want ≤ 200 ∧ 0 ≤ x.got ∧ x.got ≤ x.want ∧ 0 ≤ x.back ∧ x.back ≤ x.want ∧ lineOk p x = true) := by
  have h1 := @lineOk_iff p x
  have h2 := @isGood_iff p x.good
  cases hl : lineOk p x <;> cases hg : isGood p x.good <;> simp only [hl, hg, Bool.false_eq_true, false_iff, true_iff] at h1 h2 <;> simp only [reduceCtorEq, true_and, and_true, false_and, and_false, or_false, false_or] <;> omega

set_option maxHeartbeats 4000000 in
theorem sLine (w : World) (v : Value) (p : Plan) (x : Line) (hp : PlanV w w.heap.size v p) (hz : checkPlan p = 0) :
    Calls Try.prog 40 #[v, vLine x] w fun e w' => e = .returned (.bool (lineOk p x)) ∧ Below w.heap.size w w' := by
  have hP := hp
  obtain ⟨_, _, rfl, ⟨Ab, cb, rfl, hlb, hb⟩, ⟨As, cs, rfl, hls, hs⟩⟩ := hp
  have hb1 : isBin p 0 = true := isBin_iff.2 (by have := right_counts hz; omega)
  have hb0 : Below w.heap.size w ((w.alloc (.cells #[.slice Ab p.bins.length cb, .slice As p.sizes.length cs] 25)).alloc (.cells #[.int .i64 (x).good, .int .i64 (x).want, .int .i64 (x).got, .int .i64 (x).back] 70)) := ((Below.refl _ _).alloc (Nat.le_refl _) _).alloc (by simp) _
  unfold vLine
  rcases line_parts p x with ⟨g1, hf⟩ | ⟨g1, g2, hf⟩ | ⟨g1, g2, g3, hf⟩ | ⟨g1, g2, g3, g4, hf⟩ | ⟨g1, g2, g3, g4, g5, hf⟩ | ⟨g1, g2, g3, g4, g5, g6, hf⟩ | ⟨g1, g2, g3, g4, g5, g6, g7, hf⟩ | ⟨g1, g2, g3, g4, g5, g6, g7, hf⟩
  all_goals
    have hth : (isBin p 0 && isGood p x.good) = (isGood p x.good) := by rw [hb1]; rfl
    have hth' := Lib.hid hth
    clear hth
    have hf' := Lib.hid hf
    clear hf
    go_enter Try.func40, Try.ntmps40
    go_wp2_with fail
    refine (shThere _ _ p 0 x.good (hP.grow hb0)).mono ?_
    rintro e W1 ⟨rfl, hc1⟩
    have hB := hb0.trans (hc1.mono hb0.size)
    obtain ⟨ha1, hf1⟩ := bcell hc1
    rw [hth'.out, g1]
    go_wp2_with fail
    go_ret
    exact ⟨ret_bool (by rw [hf'.out] <;> first | rfl | (simp <;> omega)), hB⟩

set_option maxHeartbeats 2000000 in
theorem sSums (w : World) (v vl : Value) (p : Plan) (l : List Int) (lo : Int) (hp : PlanV w w.heap.size v p) (hl : Sl cInt w w.heap.size vl l) (hz : checkPlan p = 0) :
    Calls Try.prog 48 #[v, vl, .int .i64 lo] w fun e w' => e = .returned (.bool (sumsOk p l lo)) ∧ Below w.heap.size w w' := by
  have hP := hp
  obtain ⟨_, _, rfl, ⟨Ab, cb, rfl, hlb, hb⟩, ⟨As, cs, rfl, hls, hs⟩⟩ := hp
  have hL := hl
  obtain ⟨A, c, rfl, hll, hA⟩ := hl
  have hcnt := right_counts hz
  have hb0 : Below w.heap.size w (w.alloc (.cells #[.slice Ab p.bins.length cb, .slice As p.sizes.length cs] 25)) := (Below.refl _ _).alloc (Nat.le_refl _) _
  rcases sumsOk_bad (p := p) l lo (by omega) with ⟨h1, h⟩ | ⟨h1, h2, h⟩ | ⟨h1, h2, h3, h⟩ | ⟨h1, h2, h3, h⟩
  · have hne : ((l.length : Int) == (p.sizes.length : Int)) = false := by simp; omega
    have h' := Lib.hid h
    clear h h1
    go_enter Try.func48, Try.ntmps48
    go_wp2_with fail
    go_ret
    exact ⟨ret_bool (by rw [h'.out]), hb0⟩
  all_goals
    have hne : ((l.length : Int) == (p.sizes.length : Int)) = true := by simp; omega
    have hpos : 0 < l.length := by omega
    have h' := Lib.hid h
    clear h h1
    go_enter Try.func48, Try.ntmps48
    go_wp2_with (first | (go_at_call 34; refine (slMin _ _ l (hL.grow hb0) hpos).mono ?_; rintro e w' ⟨rfl, rfl⟩) | (go_at_call 35; refine (slMax _ _ l (hL.grow hb0) hpos).mono ?_; rintro e w' ⟨rfl, rfl⟩))
    go_ret
    exact ⟨ret_bool (by rw [h'.out] <;> first | rfl | (simp <;> omega)), hb0⟩

set_option maxHeartbeats 1000000 in
/-- formed's first closure: a line that may not be. -/
theorem sBadLine (p : Plan) (x : Line) (W : World) (B : Nat) (hz : checkPlan p = 0) (Ab As : Option Addr) (cb cs : Nat) (h0 : W.cell? ⟨B, 0, none⟩ = some (.slice Ab p.bins.length cb)) (h1 : W.cell? ⟨B, 1, none⟩ = some (.slice As p.sizes.length cs)) (hB : B < W.heap.size)
    (hP : PlanV W W.heap.size (.agg #[.slice Ab p.bins.length cb, .slice As p.sizes.length cs]) p) :
    Calls Try.prog 39 #[vLine x, .pointer (some ⟨B, 0, none⟩)] W fun e W' => e = .returned (.bool (!lineOk p x)) ∧ Below W.heap.size W W' := by
  have hb0 : Below W.heap.size W (W.alloc (.cells #[.int .i64 (x).good, .int .i64 (x).want, .int .i64 (x).got, .int .i64 (x).back] 70)) := (Below.refl _ _).alloc (Nat.le_refl _) _
  have hz' := Lib.hid hz
  clear hz
  unfold vLine
  go_enter Try.func39, Try.ntmps39
  go_wp2_with fail
  refine (sLine _ _ p x (hP.grow hb0) hz'.out).mono ?_
  rintro e W1 ⟨rfl, hc1⟩
  go_wp2_with fail
  go_ret
  exact ⟨rfl, hb0.trans (hc1.mono hb0.size)⟩
theorem entersBadLine : Enters Try.prog 39 := enters_of Try.func39 (by kernel_rfl) rfl

theorem holdIn_parts (p : Plan) (s : State) (h : Hold) : ((s.orders.length : Int) ≤ h.order ∧ holdIn p s h = false) ∨ (h.order < s.orders.length ∧ ((s.order h.order.toNat).lines.length : Int) ≤ h.line ∧ holdIn p s h = false) ∨
    (h.order < s.orders.length ∧ h.line < (s.order h.order.toNat).lines.length ∧ (p.bins.length : Int) ≤ h.bin ∧ holdIn p s h = false) ∨ (h.order < s.orders.length ∧ h.line < (s.order h.order.toNat).lines.length ∧ h.bin < p.bins.length ∧ holdIn p s h = true) := by
  have h1 := @holdIn_iff p s h
  cases hl : holdIn p s h <;> simp only [hl, Bool.false_eq_true, false_iff, true_iff] at h1 <;> simp only [reduceCtorEq, and_true, and_false, or_false, false_or] <;> omega

set_option maxHeartbeats 4000000 in
/-- formed's second closure: is there such a line, and such a bin? -/
theorem sHoldIn (p : Plan) (s : State) (h : Hold) (W : World) (Bs Bp : Nat) (A1 Ab : Option Addr) (c1 cb : Nat) (hs1 : W.cell? ⟨Bs, 1, none⟩ = some (.slice A1 s.orders.length c1)) (hp0 : W.cell? ⟨Bp, 0, none⟩ = some (.slice Ab p.bins.length cb)) (hBs : Bs < W.heap.size) (hBp : Bp < W.heap.size)
    (hO : SlOrders W W.heap.size (.slice A1 s.orders.length c1) s.orders) (h0 : 0 ≤ h.order) (h72 : s.orders.length ≤ 1000) (hl72 : ∀ o, o < s.orders.length → (orderAt s.orders o).lines.length ≤ 1000) :
    Calls Try.prog 41 #[vHold h, .pointer (some ⟨Bs, 0, none⟩), .pointer (some ⟨Bp, 0, none⟩)] W fun e W' => e = .returned (.bool (holdIn p s h)) ∧ Below W.heap.size W W' := by
  have hb0 : Below W.heap.size W (W.alloc (.cells #[.int .i64 (h).order, .int .i64 (h).line, .int .i64 (h).bin, .int .i64 (h).n] 65)) := (Below.refl _ _).alloc (Nat.le_refl _) _
  have hlW : W.heap.size < (W.alloc (.cells #[.int .i64 (h).order, .int .i64 (h).line, .int .i64 (h).bin, .int .i64 (h).n] 65)).heap.size := by simp
  have q0 := fun o d os => cells_wld (w := W.alloc (.cells #[.int .i64 (h).order, .int .i64 (h).line, .int .i64 (h).bin, .int .i64 (h).n] 65)) (b := Bs) (by simp; omega) o d os
  have q1 := fun o d os => cells_wld (w := W.alloc (.cells #[.int .i64 (h).order, .int .i64 (h).line, .int .i64 (h).bin, .int .i64 (h).n] 65)) (b := Bp) (by simp; omega) o d os
  have q2 := fun o d os => cells_wld (w := W.alloc (.cells #[.int .i64 (h).order, .int .i64 (h).line, .int .i64 (h).bin, .int .i64 (h).n] 65)) (b := W.heap.size) hlW o d os
  unfold vHold
  rcases holdIn_parts p s h with ⟨g1, hf⟩ | ⟨g1, g2, hf⟩ | ⟨g1, g2, g3, hf⟩ | ⟨g1, g2, g3, hf⟩
  · have hf' := Lib.hid hf
    have d1 : decide (h.order < (s.orders.length : Int)) = false := by simpa using g1
    clear hf hl72
    go_enter Try.func41, Try.ntmps41
    go_wp2_with fail
    refine wp_region_wld (by kernel_rfl) (by kernel_rfl) ?_
    repeat (go_big_quiet_step (fail))
    refine wpQuiet_nil ?_
    intro W2 hw'
    have hb2 := below_of_cls hw'
    clear hw'
    go_wp2_with fail
    go_ret
    exact ⟨ret_bool (by rw [hf'.out]), hb0.trans (hb2.mono hb0.size)⟩
  · have hf' := Lib.hid hf
    have hol : h.order.toNat < s.orders.length := by omega
    obtain ⟨A', c', hok1, hAb1, _, e1, hsl⟩ := hO.order hol
    have hll := hl72 _ hol
    unfold State.order at g2
    have q3 := fun o d os => cells_wld (w := W.alloc (.cells #[.int .i64 (h).order, .int .i64 (h).line, .int .i64 (h).bin, .int .i64 (h).n] 65)) (b := ablk A1) (by simp; omega) o d os
    have d1 : decide (h.order < (s.orders.length : Int)) = true := by simpa using g1
    have d2 : decide (h.line < ((orderAt s.orders h.order.toNat).lines.length : Int)) = false := by simpa using g2
    clear hf hl72
    go_enter Try.func41, Try.ntmps41
    go_wp2_with fail
    refine wp_region_wld (by kernel_rfl) (by kernel_rfl) ?_
    repeat (go_big_quiet_step (fail))
    refine wpQuiet_nil ?_
    intro W2 hw'
    have hb2 := below_of_cls hw'
    clear hw'
    go_wp2_with fail
    go_ret
    exact ⟨ret_bool (by rw [hf'.out] <;> first | rfl | (simp <;> omega)), hb0.trans (hb2.mono hb0.size)⟩
  · have hf' := Lib.hid hf
    have hol : h.order.toNat < s.orders.length := by omega
    obtain ⟨A', c', hok1, hAb1, _, e1, hsl⟩ := hO.order hol
    have hll := hl72 _ hol
    unfold State.order at g2
    have q3 := fun o d os => cells_wld (w := W.alloc (.cells #[.int .i64 (h).order, .int .i64 (h).line, .int .i64 (h).bin, .int .i64 (h).n] 65)) (b := ablk A1) (by simp; omega) o d os
    have d1 : decide (h.order < (s.orders.length : Int)) = true := by simpa using g1
    have d2 : decide (h.line < ((orderAt s.orders h.order.toNat).lines.length : Int)) = true := by simpa using g2
    have d3 : decide (h.bin < (p.bins.length : Int)) = false := by simpa using g3
    clear hf hl72
    go_enter Try.func41, Try.ntmps41
    go_wp2_with fail
    refine wp_region_wld (by kernel_rfl) (by kernel_rfl) ?_
    repeat (go_big_quiet_step (fail))
    refine wpQuiet_nil ?_
    intro W2 hw'
    have hb2 := below_of_cls hw'
    clear hw'
    go_wp2_with fail
    go_ret
    exact ⟨ret_bool (by rw [hf'.out] <;> first | rfl | (simp <;> omega)), hb0.trans (hb2.mono hb0.size)⟩
  · have hf' := Lib.hid hf
    have hol : h.order.toNat < s.orders.length := by omega
    obtain ⟨A', c', hok1, hAb1, _, e1, hsl⟩ := hO.order hol
    have hll := hl72 _ hol
    unfold State.order at g2
    have q3 := fun o d os => cells_wld (w := W.alloc (.cells #[.int .i64 (h).order, .int .i64 (h).line, .int .i64 (h).bin, .int .i64 (h).n] 65)) (b := ablk A1) (by simp; omega) o d os
    have d1 : decide (h.order < (s.orders.length : Int)) = true := by simpa using g1
    have d2 : decide (h.line < ((orderAt s.orders h.order.toNat).lines.length : Int)) = true := by simpa using g2
    have d3 : decide (h.bin < (p.bins.length : Int)) = true := by simpa using g3
    clear hf hl72
    go_enter Try.func41, Try.ntmps41
    go_wp2_with fail
    refine wp_region_wld (by kernel_rfl) (by kernel_rfl) ?_
    repeat (go_big_quiet_step (fail))
    refine wpQuiet_nil ?_
    intro W2 hw'
    have hb2 := below_of_cls hw'
    clear hw'
    go_wp2_with fail
    go_ret
    exact ⟨ret_bool (by rw [hf'.out] <;> first | rfl | (simp <;> omega)), hb0.trans (hb2.mono hb0.size)⟩
end Wh
namespace Wh
open Go Go.RowKit Go.Shelf Go.Proofs
attribute [local go_sem] run_indexAt_letter

theorem move_parts (p : Plan) (x : Move) : ((isBin p x.src && isGood p x.good) = false ∧ moveOk p x = false) ∨ ((isBin p x.src && isGood p x.good) = true ∧ (isBin p x.dst && isGood p x.good) = false ∧ moveOk p x = false) ∨
    ((isBin p x.src && isGood p x.good) = true ∧ (isBin p x.dst && isGood p x.good) = true ∧ (x.src != x.dst) = false ∧ moveOk p x = false) ∨
    ((isBin p x.src && isGood p x.good) = true ∧ (isBin p x.dst && isGood p x.good) = true ∧ (x.src != x.dst) = true ∧ x.n < 1 ∧ moveOk p x = false) ∨
    ((isBin p x.src && isGood p x.good) = true ∧ (isBin p x.dst && isGood p x.good) = true ∧ (x.src != x.dst) = true ∧ 1 ≤ x.n ∧ 200 < x.n ∧ moveOk p x = false) ∨
    ((isBin p x.src && isGood p x.good) = true ∧ (isBin p x.dst && isGood p x.good) = true ∧ (x.src != x.dst) = true ∧ 1 ≤ x.n ∧ x.n ≤ 200 ∧ moveOk p x = true) := by
  unfold moveOk
  have hw := @within_iff x.n 1 200
  cases isBin p x.src <;> cases isGood p x.good <;> cases isBin p x.dst <;> by_cases h : x.src = x.dst <;> cases hq : within x.n 1 200 <;> simp [h, hq] at hw ⊢ <;> omega

set_option maxHeartbeats 4000000 in
theorem sMoveOk (p : Plan) (x : Move) (W : World) (B : Nat) (Ab As : Option Addr) (cb cs : Nat) (h0 : W.cell? ⟨B, 0, none⟩ = some (.slice Ab p.bins.length cb)) (h1 : W.cell? ⟨B, 1, none⟩ = some (.slice As p.sizes.length cs)) (hB : B < W.heap.size)
    (hP : PlanV W W.heap.size (.agg #[.slice Ab p.bins.length cb, .slice As p.sizes.length cs]) p) :
    Calls Try.prog 42 #[vMove x, .pointer (some ⟨B, 0, none⟩)] W fun e W' => e = .returned (.bool (moveOk p x)) ∧ Below W.heap.size W W' := by
  have hb0 : Below W.heap.size W (W.alloc (.cells #[.int .i64 (x).good, .int .i64 (x).src, .int .i64 (x).dst, .int .i64 (x).n] 42)) := (Below.refl _ _).alloc (Nat.le_refl _) _
  have hBl : B < (W.alloc (.cells #[.int .i64 (x).good, .int .i64 (x).src, .int .i64 (x).dst, .int .i64 (x).n] 42)).heap.size := by simp; omega
  unfold vMove
  rcases move_parts p x with ⟨g1, hf⟩ | ⟨g1, g2, hf⟩ | ⟨g1, g2, g3, hf⟩ | ⟨g1, g2, g3, g4, hf⟩ | ⟨g1, g2, g3, g4, g5, hf⟩ | ⟨g1, g2, g3, g4, g5, hf⟩
  · have hf' := Lib.hid hf
    have g1' := Lib.hid g1
    clear hf g1
    go_enter Try.func42, Try.ntmps42
    go_wp2_with fail
    refine (shThere _ _ p x.src x.good (hP.grow hb0)).mono ?_
    rintro e W1 ⟨rfl, hc1⟩
    rw [g1'.out]
    go_wp2_with fail
    go_ret
    exact ⟨ret_bool (by rw [hf'.out]), hb0.trans (hc1.mono hb0.size)⟩
  all_goals
    have hf' := Lib.hid hf
    have g1' := Lib.hid g1
    have g2' := Lib.hid g2
    clear hf g1 g2
    go_enter Try.func42, Try.ntmps42
    go_wp2_with fail
    refine (shThere _ _ p x.src x.good (hP.grow hb0)).mono ?_
    rintro e W1 ⟨rfl, hc1⟩
    have hb01 := hb0.trans (hc1.mono hb0.size)
    obtain ⟨hd1, hf1⟩ := bcell hc1
    rw [g1'.out]
    go_wp2_with fail
    refine (shThere _ _ p x.dst x.good (hP.grow hb01)).mono ?_
    rintro e W2 ⟨rfl, hc2⟩
    have hc12 := hc1.trans (hc2.mono hc1.size)
    obtain ⟨hd2, hf2⟩ := bcell hc12
    clear hd1 hf1
    rw [g2'.out]
    go_wp2_with fail
    go_ret
    exact ⟨ret_bool (by rw [hf'.out] <;> first | rfl | (simp <;> omega)), hb0.trans (hc12.mono hb0.size)⟩

set_option maxHeartbeats 1000000 in
/-- formed's closures over closures. -/
theorem sBadHold (p : Plan) (s : State) (h : Hold) (W : World) (Bc Bs Bp : Nat) (A1 Ab : Option Addr) (c1 cb : Nat) (hc : W.cell? ⟨Bc, 0, none⟩ = some (.func (.func 41) #[] #[.pointer (some ⟨Bs, 0, none⟩), .pointer (some ⟨Bp, 0, none⟩)])) (hBc : Bc < W.heap.size)
    (hs1 : W.cell? ⟨Bs, 1, none⟩ = some (.slice A1 s.orders.length c1)) (hp0 : W.cell? ⟨Bp, 0, none⟩ = some (.slice Ab p.bins.length cb)) (hBs : Bs < W.heap.size) (hBp : Bp < W.heap.size)
    (hO : SlOrders W W.heap.size (.slice A1 s.orders.length c1) s.orders) (h0 : 0 ≤ h.order) (h72 : s.orders.length ≤ 1000) (hl72 : ∀ o, o < s.orders.length → (orderAt s.orders o).lines.length ≤ 1000) :
    Calls Try.prog 45 #[vHold h, .pointer (some ⟨Bc, 0, none⟩)] W fun e W' => e = .returned (.bool (!holdIn p s h)) ∧ Below W.heap.size W W' := by
  have hb0 : Below W.heap.size W (W.alloc (.cells #[.int .i64 (h).order, .int .i64 (h).line, .int .i64 (h).bin, .int .i64 (h).n] 65)) := (Below.refl _ _).alloc (Nat.le_refl _) _
  have hl' := Lib.hid hl72
  have r1 : (W.alloc (.cells #[.int .i64 (h).order, .int .i64 (h).line, .int .i64 (h).bin, .int .i64 (h).n] 65)).cell? ⟨Bs, 1, none⟩ = some (.slice A1 s.orders.length c1) := (hb0.cell (p := ⟨Bs, 1, none⟩) hBs).trans hs1
  have r2 : (W.alloc (.cells #[.int .i64 (h).order, .int .i64 (h).line, .int .i64 (h).bin, .int .i64 (h).n] 65)).cell? ⟨Bp, 0, none⟩ = some (.slice Ab p.bins.length cb) := (hb0.cell (p := ⟨Bp, 0, none⟩) hBp).trans hp0
  have H := Lib.hid (sHoldIn p s h (W.alloc (.cells #[.int .i64 (h).order, .int .i64 (h).line, .int .i64 (h).bin, .int .i64 (h).n] 65)) Bs Bp A1 Ab c1 cb r1 r2 (by simp; omega) (by simp; omega) (hO.up hb0 hb0.size) h0 h72 hl72)
  clear hl72 r1 r2
  unfold vHold
  go_enter Try.func45, Try.ntmps45
  go_wp2_with fail
  refine H.out.mono ?_
  rintro e W1 ⟨rfl, hc1⟩
  go_wp2_with fail
  go_ret
  exact ⟨rfl, hb0.trans (hc1.mono hb0.size)⟩
theorem entersBadHold : Enters Try.prog 45 := enters_of Try.func45 (by kernel_rfl) rfl

set_option maxHeartbeats 1000000 in
theorem sBadMove (p : Plan) (x : Move) (W : World) (Bc B : Nat) (Ab As : Option Addr) (cb cs : Nat) (hc : W.cell? ⟨Bc, 0, none⟩ = some (.func (.func 42) #[] #[.pointer (some ⟨B, 0, none⟩)])) (hBc : Bc < W.heap.size)
    (h0 : W.cell? ⟨B, 0, none⟩ = some (.slice Ab p.bins.length cb)) (h1 : W.cell? ⟨B, 1, none⟩ = some (.slice As p.sizes.length cs)) (hB : B < W.heap.size)
    (hP : PlanV W W.heap.size (.agg #[.slice Ab p.bins.length cb, .slice As p.sizes.length cs]) p) :
    Calls Try.prog 47 #[vMove x, .pointer (some ⟨Bc, 0, none⟩)] W fun e W' => e = .returned (.bool (!moveOk p x)) ∧ Below W.heap.size W W' := by
  have hb0 : Below W.heap.size W (W.alloc (.cells #[.int .i64 (x).good, .int .i64 (x).src, .int .i64 (x).dst, .int .i64 (x).n] 42)) := (Below.refl _ _).alloc (Nat.le_refl _) _
  have r1 : (W.alloc (.cells #[.int .i64 (x).good, .int .i64 (x).src, .int .i64 (x).dst, .int .i64 (x).n] 42)).cell? ⟨B, 0, none⟩ = some (.slice Ab p.bins.length cb) := (hb0.cell (p := ⟨B, 0, none⟩) hB).trans h0
  have r2 : (W.alloc (.cells #[.int .i64 (x).good, .int .i64 (x).src, .int .i64 (x).dst, .int .i64 (x).n] 42)).cell? ⟨B, 1, none⟩ = some (.slice As p.sizes.length cs) := (hb0.cell (p := ⟨B, 1, none⟩) hB).trans h1
  have H := Lib.hid (sMoveOk p x (W.alloc (.cells #[.int .i64 (x).good, .int .i64 (x).src, .int .i64 (x).dst, .int .i64 (x).n] 42)) B Ab As cb cs r1 r2 (by simp; omega) (hP.grow hb0))
  clear r1 r2
  unfold vMove
  go_enter Try.func47, Try.ntmps47
  go_wp2_with fail
  refine H.out.mono ?_
  rintro e W1 ⟨rfl, hc1⟩
  go_wp2_with fail
  go_ret
  exact ⟨rfl, hb0.trans (hc1.mono hb0.size)⟩
theorem entersBadMove : Enters Try.prog 47 := enters_of Try.func47 (by kernel_rfl) rfl

set_option maxHeartbeats 1000000 in
/-- Check's closure: too few lines, or too many. -/
theorem sBadOrder (o : Order) (u : Value) (W : World) (hu : Sl cLine W W.heap.size u o.lines) :
    Calls Try.prog 20 #[.agg #[.int .i64 o.kind, u]] W fun e W' => e = .returned (.bool (!within o.lines.length 1 3)) ∧ Below W.heap.size W W' := by
  obtain ⟨A, c, rfl, hl, hA⟩ := hu
  have hb0 : Below W.heap.size W (W.alloc (.cells #[.int .i64 o.kind, .slice A o.lines.length c] 58)) := (Below.refl _ _).alloc (Nat.le_refl _) _
  have hp : (o.lines.length < 1 ∧ within o.lines.length 1 3 = false) ∨ (1 ≤ o.lines.length ∧ 3 < o.lines.length ∧ within o.lines.length 1 3 = false) ∨ (1 ≤ o.lines.length ∧ o.lines.length ≤ 3 ∧ within o.lines.length 1 3 = true) := by
    have h1 := @within_iff o.lines.length 1 3
    cases hq : within o.lines.length 1 3 <;> simp only [hq, Bool.false_eq_true, false_iff, true_iff] at h1 <;> simp only [reduceCtorEq, and_true, and_false, or_false, false_or] <;> omega
  rcases hp with ⟨g1, hf⟩ | ⟨g1, g2, hf⟩ | ⟨g1, g2, hf⟩
  all_goals
    have hf' := Lib.hid hf
    clear hf
    go_enter Try.func20, Try.ntmps20
    go_wp2_with fail
    go_ret
    exact ⟨ret_bool (by rw [hf'.out] <;> first | rfl | (simp <;> omega)), hb0⟩
theorem entersBadOrder : Enters Try.prog 20 := enters_of Try.func20 (by kernel_rfl) rfl
end Wh
namespace Wh
open Go Go.RowKit Go.Shelf Go.Proofs
attribute [local go_sem] run_indexAt_letter

theorem formed_orders {p : Plan} {s : State} {o : Nat} (ho : o < s.orders.length) (h : orderOk p (orderAt s.orders o) = false) : formed p s = false := by
  unfold formed
  rw [all_no dOrder ho h]
  simp
theorem check_ok0 {l : List Hold} (h : holdsOk l = true) : checkHolds l = 0 := by unfold checkHolds; rw [h]; rfl
theorem order_parts (p : Plan) (o : Order) : (o.kind < 0 ∧ orderOk p o = false) ∨ (0 ≤ o.kind ∧ 2 < o.kind ∧ orderOk p o = false) ∨ (0 ≤ o.kind ∧ o.kind ≤ 2 ∧ (o.lines.any fun x => !lineOk p x) = true ∧ orderOk p o = false) ∨
    (0 ≤ o.kind ∧ o.kind ≤ 2 ∧ (o.lines.any fun x => !lineOk p x) = false ∧ orderOk p o = true) := by
  have h := @orderOk_iff p o
  rw [any_not]
  cases hq : orderOk p o <;> cases hl : o.lines.all (lineOk p) <;> simp only [hq, hl, Bool.false_eq_true, false_iff, true_iff, and_true, and_false] at h <;>
    simp only [reduceCtorEq, Bool.not_true, Bool.not_false, and_true, and_false, or_false, false_or] <;> omega
theorem rest_formed {p : Plan} {s : State} (h : s.orders.all (orderOk p) = true) : formed p s = (holdsOk s.holds && (!(s.holds.any fun x => !holdIn p s x) && (!(s.moves.any fun x => !moveOk p x) && (sumsOk p s.inn 0 && (sumsOk p s.out 0 && sumsOk p s.fixed (-1048576)))))) := by
  unfold formed
  rw [h, any_not, any_not]
  simp [Bool.and_assoc]

set_option maxHeartbeats 8000000 in
set_option maxRecDepth 10000 in
theorem sFormed (w : World) (v vs : Value) (p : Plan) (s : State) (hp : PlanV w w.heap.size v p) (hv : StateV w w.heap.size vs s) (hz : checkPlan p = 0) (h4 : s.orders.length ≤ 4) (hll3 : ∀ o, o < s.orders.length → (orderAt s.orders o).lines.length ≤ 1000) :
    Calls Try.prog 21 #[v, vs] w fun e w' => e = .returned (.bool (formed p s)) ∧ Below w.heap.size w w' := by
  have hP := hp
  obtain ⟨_, _, rfl, ⟨Ab, cb, rfl, hlb, hb⟩, ⟨As, cs, rfl, hls, hs⟩⟩ := hp
  have hS := hv
  obtain ⟨_, _, _, _, _, _, _, rfl, ⟨A0, c0, vs0, rfl, hl0, hm0, ha0, hr0⟩, ⟨A1, c1, vs1, rfl, hl1, hm1, ha1, hr1⟩, ⟨A2, c2, rfl, hl2, ha2⟩, ⟨A3, c3, rfl, hl3, ha3⟩, ⟨A4, c4, rfl, hl4, ha4⟩, ⟨A5, c5, rfl, hl5, ha5⟩, ⟨A6, c6, rfl, hl6, ha6⟩⟩ := hv
  have hb0 : Below w.heap.size w ((w.alloc (.cells #[.slice Ab p.bins.length cb, .slice As p.sizes.length cs] 25)).alloc (.cells #[.slice A0 s.on.length c0, .slice A1 s.orders.length c1, .slice A2 s.holds.length c2, .slice A3 s.moves.length c3, .slice A4 s.inn.length c4, .slice A5 s.out.length c5, .slice A6 s.fixed.length c6] 31)) := ((Below.refl _ _).alloc (Nat.le_refl _) _).alloc (by simp) _
  have hsz0 : w.heap.size + 1 < ((w.alloc (.cells #[.slice Ab p.bins.length cb, .slice As p.sizes.length cs] 25)).alloc (.cells #[.slice A0 s.on.length c0, .slice A1 s.orders.length c1, .slice A2 s.holds.length c2, .slice A3 s.moves.length c3, .slice A4 s.inn.length c4, .slice A5 s.out.length c5, .slice A6 s.fixed.length c6] 31)).heap.size := by simp
  have hz0 : (((w.alloc (.cells #[.slice Ab p.bins.length cb, .slice As p.sizes.length cs] 25)).alloc (.cells #[.slice A0 s.on.length c0, .slice A1 s.orders.length c1, .slice A2 s.holds.length c2, .slice A3 s.moves.length c3, .slice A4 s.inn.length c4, .slice A5 s.out.length c5, .slice A6 s.fixed.length c6] 31)).cell? ⟨w.heap.size, 0, none⟩ = some (.slice Ab p.bins.length cb) ∧ ((w.alloc (.cells #[.slice Ab p.bins.length cb, .slice As p.sizes.length cs] 25)).alloc (.cells #[.slice A0 s.on.length c0, .slice A1 s.orders.length c1, .slice A2 s.holds.length c2, .slice A3 s.moves.length c3, .slice A4 s.inn.length c4, .slice A5 s.out.length c5, .slice A6 s.fixed.length c6] 31)).cell? ⟨w.heap.size, 1, none⟩ = some (.slice As p.sizes.length cs)) ∧
      ((w.alloc (.cells #[.slice Ab p.bins.length cb, .slice As p.sizes.length cs] 25)).alloc (.cells #[.slice A0 s.on.length c0, .slice A1 s.orders.length c1, .slice A2 s.holds.length c2, .slice A3 s.moves.length c3, .slice A4 s.inn.length c4, .slice A5 s.out.length c5, .slice A6 s.fixed.length c6] 31)).cell? ⟨w.heap.size + 1, 1, none⟩ = some (.slice A1 s.orders.length c1) ∧ ((w.alloc (.cells #[.slice Ab p.bins.length cb, .slice As p.sizes.length cs] 25)).alloc (.cells #[.slice A0 s.on.length c0, .slice A1 s.orders.length c1, .slice A2 s.holds.length c2, .slice A3 s.moves.length c3, .slice A4 s.inn.length c4, .slice A5 s.out.length c5, .slice A6 s.fixed.length c6] 31)).cell? ⟨w.heap.size + 1, 2, none⟩ = some (.slice A2 s.holds.length c2) ∧ ((w.alloc (.cells #[.slice Ab p.bins.length cb, .slice As p.sizes.length cs] 25)).alloc (.cells #[.slice A0 s.on.length c0, .slice A1 s.orders.length c1, .slice A2 s.holds.length c2, .slice A3 s.moves.length c3, .slice A4 s.inn.length c4, .slice A5 s.out.length c5, .slice A6 s.fixed.length c6] 31)).cell? ⟨w.heap.size + 1, 3, none⟩ = some (.slice A3 s.moves.length c3) ∧
      ((w.alloc (.cells #[.slice Ab p.bins.length cb, .slice As p.sizes.length cs] 25)).alloc (.cells #[.slice A0 s.on.length c0, .slice A1 s.orders.length c1, .slice A2 s.holds.length c2, .slice A3 s.moves.length c3, .slice A4 s.inn.length c4, .slice A5 s.out.length c5, .slice A6 s.fixed.length c6] 31)).cell? ⟨w.heap.size + 1, 4, none⟩ = some (.slice A4 s.inn.length c4) ∧ ((w.alloc (.cells #[.slice Ab p.bins.length cb, .slice As p.sizes.length cs] 25)).alloc (.cells #[.slice A0 s.on.length c0, .slice A1 s.orders.length c1, .slice A2 s.holds.length c2, .slice A3 s.moves.length c3, .slice A4 s.inn.length c4, .slice A5 s.out.length c5, .slice A6 s.fixed.length c6] 31)).cell? ⟨w.heap.size + 1, 5, none⟩ = some (.slice A5 s.out.length c5) ∧ ((w.alloc (.cells #[.slice Ab p.bins.length cb, .slice As p.sizes.length cs] 25)).alloc (.cells #[.slice A0 s.on.length c0, .slice A1 s.orders.length c1, .slice A2 s.holds.length c2, .slice A3 s.moves.length c3, .slice A4 s.inn.length c4, .slice A5 s.out.length c5, .slice A6 s.fixed.length c6] 31)).cell? ⟨w.heap.size + 1, 6, none⟩ = some (.slice A6 s.fixed.length c6) := by simp
  have hO := Lib.hid (fun W (hW : Below w.heap.size w W) => (SlOrders.up ⟨A1, c1, vs1, rfl, hl1, hm1, ha1, hr1⟩ hW hW.size : SlOrders W W.heap.size (.slice A1 s.orders.length c1) s.orders))
  have hH := Lib.hid (fun W (hW : Below w.heap.size w W) => (Sl.up ⟨A2, c2, rfl, hl2, ha2⟩ hW hW.size : Sl cHold W W.heap.size (.slice A2 s.holds.length c2) s.holds))
  have hM := Lib.hid (fun W (hW : Below w.heap.size w W) => (Sl.up ⟨A3, c3, rfl, hl3, ha3⟩ hW hW.size : Sl cMove W W.heap.size (.slice A3 s.moves.length c3) s.moves))
  have hI := Lib.hid (fun W (hW : Below w.heap.size w W) => (Sl.up ⟨A4, c4, rfl, hl4, ha4⟩ hW hW.size : Sl cInt W W.heap.size (.slice A4 s.inn.length c4) s.inn))
  have hU := Lib.hid (fun W (hW : Below w.heap.size w W) => (Sl.up ⟨A5, c5, rfl, hl5, ha5⟩ hW hW.size : Sl cInt W W.heap.size (.slice A5 s.out.length c5) s.out))
  have hX := Lib.hid (fun W (hW : Below w.heap.size w W) => (Sl.up ⟨A6, c6, rfl, hl6, ha6⟩ hW hW.size : Sl cInt W W.heap.size (.slice A6 s.fixed.length c6) s.fixed))
  have hP' := Lib.hid (fun W (hW : Below w.heap.size w W) => hP.up hW hW.size)
  have hz' := Lib.hid hz
  have hl3' := Lib.hid hll3
  clear hz hll3 hP
  go_enter Try.func21, Try.ntmps21
  go_wp2_with fail
  generalize hW0 : (w.alloc (.cells #[.slice Ab p.bins.length cb, .slice As p.sizes.length cs] 25)).alloc (.cells #[.slice A0 s.on.length c0, .slice A1 s.orders.length c1, .slice A2 s.holds.length c2, .slice A3 s.moves.length c3, .slice A4 s.inn.length c4, .slice A5 s.out.length c5, .slice A6 s.fixed.length c6] 31) = W0 at hb0 hsz0 hz0 ⊢
  have hz0' := Lib.hid hz0
  clear hW0 hz0
  have hsz1 : w.heap.size < W0.heap.size := by omega
  have hK := Lib.hid (fun W (hW : Below W0.heap.size W0 W) => And.intro (And.intro ((hW.cell (p := ⟨w.heap.size, 0, none⟩) hsz1).trans hz0'.out.1.1) ((hW.cell (p := ⟨w.heap.size, 1, none⟩) hsz1).trans hz0'.out.1.2))
    (And.intro ((hW.cell (p := ⟨w.heap.size + 1, 1, none⟩) hsz0).trans hz0'.out.2.1) (And.intro ((hW.cell (p := ⟨w.heap.size + 1, 2, none⟩) hsz0).trans hz0'.out.2.2.1) (And.intro ((hW.cell (p := ⟨w.heap.size + 1, 3, none⟩) hsz0).trans hz0'.out.2.2.2.1)
    (And.intro ((hW.cell (p := ⟨w.heap.size + 1, 4, none⟩) hsz0).trans hz0'.out.2.2.2.2.1) (And.intro ((hW.cell (p := ⟨w.heap.size + 1, 5, none⟩) hsz0).trans hz0'.out.2.2.2.2.2.1) ((hW.cell (p := ⟨w.heap.size + 1, 6, none⟩) hsz0).trans hz0'.out.2.2.2.2.2.2)))))))
  obtain ⟨⟨y0, y1⟩, x1, x2, x3, x4, x5, x6⟩ := hK.out W0 (Below.refl _ _)
  go_loopw [12, 6] (fun i _ wr => ∃ k : Nat, k ≤ s.orders.length ∧ i = .int .i64 k ∧ (∀ j, j < k → orderOk p (orderAt s.orders j) = true) ∧ Below W0.heap.size W0 wr) (fun i _ _ => s.orders.length - (intOf i).toNat)
  case atStart => exact ⟨0, Nat.zero_le _, rfl, fun j hj => by omega, Below.refl _ _⟩
  case round =>
    clear y0 y1 x1 x2 x3 x4 x5 x6
    obtain ⟨k, hk, rfl, hall, hbw⟩ := hrel
    have hall' := Lib.hid hall
    clear hall
    have hB := hb0.trans (hbw.mono hb0.size)
    by_cases hlt : k < s.orders.length
    · obtain ⟨A', c', hok1, hAb1, d0, d1, hsl⟩ := (hO.out wr hB).order hlt
      have hba : Below W0.heap.size W0 (wr.alloc (.cells #[.int .i64 (orderAt s.orders k).kind, .slice A' (orderAt s.orders k).lines.length c'] 58)) := hbw.alloc hbw.size _
      have hwa : Below wr.heap.size wr (wr.alloc (.cells #[.int .i64 (orderAt s.orders k).kind, .slice A' (orderAt s.orders k).lines.length c'] 58)) := (Below.refl _ _).alloc (Nat.le_refl _) _
      rcases order_parts p (orderAt s.orders k) with ⟨g1, hf⟩ | ⟨g1, g2, hf⟩ | ⟨g1, g2, g3, hf⟩ | ⟨g1, g2, g3, hf⟩
      · have hfin := Lib.hid (formed_orders hlt hf)
        clear hf
        go_wp2_with fail
        go_ret
        exact ⟨ret_bool (by rw [hfin.out]), hb0.trans (hba.mono hb0.size)⟩
      · have hfin := Lib.hid (formed_orders hlt hf)
        clear hf
        go_wp2_with fail
        go_ret
        exact ⟨ret_bool (by rw [hfin.out]), hb0.trans (hba.mono hb0.size)⟩
      · have hfin := Lib.hid (formed_orders hlt hf)
        have g3' := Lib.hid g3
        clear hf g3
        go_wp2_with fail
        refine (containsFuncLine _ _ (orderAt s.orders k).lines 39 #[.pointer (some ⟨w.heap.size, 0, none⟩)] (fun x => !lineOk p x) entersBadLine (hsl.grow hwa) (fun j _ W hW => by
          have hW2 := hba.trans (hW.mono hba.size)
          obtain ⟨⟨a0, a1⟩, _⟩ := hK.out W hW2
          exact sBadLine p _ W w.heap.size hz'.out Ab As cb cs a0 a1 (Nat.lt_of_lt_of_le hsz1 hW2.size) (hP'.out W (hb0.trans (hW2.mono hb0.size))))).mono ?_
        rintro e W2 ⟨rfl, hb2⟩
        rw [g3'.out]
        have hb02 := hba.trans (hb2.mono hba.size)
        go_wp2_with fail
        go_ret
        exact ⟨ret_bool (by rw [hfin.out]), hb0.trans (hb02.mono hb0.size)⟩
      · have g3' := Lib.hid g3
        have hf' := Lib.hid hf
        clear hf g3
        go_wp2_with fail
        refine (containsFuncLine _ _ (orderAt s.orders k).lines 39 #[.pointer (some ⟨w.heap.size, 0, none⟩)] (fun x => !lineOk p x) entersBadLine (hsl.grow hwa) (fun j _ W hW => by
          have hW2 := hba.trans (hW.mono hba.size)
          obtain ⟨⟨a0, a1⟩, _⟩ := hK.out W hW2
          exact sBadLine p _ W w.heap.size hz'.out Ab As cb cs a0 a1 (Nat.lt_of_lt_of_le hsz1 hW2.size) (hP'.out W (hb0.trans (hW2.mono hb0.size))))).mono ?_
        rintro e W2 ⟨rfl, hb2⟩
        rw [g3'.out]
        have hb02 := hba.trans (hb2.mono hba.size)
        go_wp2_with fail
        go_roundw
        case rel =>
          refine ⟨k + 1, by omega, by go_num, fun j hj => ?_, hb02⟩
          rcases Nat.lt_succ_iff_lt_or_eq.1 hj with h | rfl
          · exact hall'.out j h
          · exact hf'.out
        case measure => simp [intOf]; omega
    · obtain rfl : k = s.orders.length := by omega
      have hrest := Lib.hid (rest_formed (all_of dOrder hall'.out))
      obtain ⟨⟨y0, y1⟩, x1, x2, x3, x4, x5, x6⟩ := hK.out wr hbw
      have hbz0 : w.heap.size + 1 < wr.heap.size := Nat.lt_of_lt_of_le hsz0 hbw.size
      have hbz1 : w.heap.size < wr.heap.size := by omega
      have hba : Below W0.heap.size W0 ((wr.alloc (.cells #[.func (.func 41) #[] #[.pointer (some ⟨w.heap.size + 1, 0, none⟩), .pointer (some ⟨w.heap.size, 0, none⟩)]] 82)).alloc (.cells #[.func (.func 42) #[] #[.pointer (some ⟨w.heap.size, 0, none⟩)]] 83)) := (hbw.alloc hbw.size _).alloc (by have := hbw.size; simp; omega) _
      have hbc : wr.heap.size + 1 < ((wr.alloc (.cells #[.func (.func 41) #[] #[.pointer (some ⟨w.heap.size + 1, 0, none⟩), .pointer (some ⟨w.heap.size, 0, none⟩)]] 82)).alloc (.cells #[.func (.func 42) #[] #[.pointer (some ⟨w.heap.size, 0, none⟩)]] 83)).heap.size := by simp
      have hz9 : ((wr.alloc (.cells #[.func (.func 41) #[] #[.pointer (some ⟨w.heap.size + 1, 0, none⟩), .pointer (some ⟨w.heap.size, 0, none⟩)]] 82)).alloc (.cells #[.func (.func 42) #[] #[.pointer (some ⟨w.heap.size, 0, none⟩)]] 83)).cell? ⟨wr.heap.size, 0, none⟩ = some (.func (.func 41) #[] #[.pointer (some ⟨w.heap.size + 1, 0, none⟩), .pointer (some ⟨w.heap.size, 0, none⟩)]) ∧
          ((wr.alloc (.cells #[.func (.func 41) #[] #[.pointer (some ⟨w.heap.size + 1, 0, none⟩), .pointer (some ⟨w.heap.size, 0, none⟩)]] 82)).alloc (.cells #[.func (.func 42) #[] #[.pointer (some ⟨w.heap.size, 0, none⟩)]] 83)).cell? ⟨wr.heap.size + 1, 0, none⟩ = some (.func (.func 42) #[] #[.pointer (some ⟨w.heap.size, 0, none⟩)]) := by simp
      go_wp2_with fail
      generalize hW1 : (wr.alloc (.cells #[.func (.func 41) #[] #[.pointer (some ⟨w.heap.size + 1, 0, none⟩), .pointer (some ⟨w.heap.size, 0, none⟩)]] 82)).alloc (.cells #[.func (.func 42) #[] #[.pointer (some ⟨w.heap.size, 0, none⟩)]] 83) = W1 at hba hbc hz9 ⊢
      have hz9' := Lib.hid hz9
      clear hW1 hz9 y0 y1 x1 x2 x3 x4 x5 x6
      have hB1 := hb0.trans (hba.mono hb0.size)
      refine (hdCheck _ _ s.holds (hH.out W1 hB1)).mono ?_
      rintro e W2 ⟨rfl, hb2⟩
      have hba2 := hba.trans (hb2.mono hba.size)
      have hB2 := hb0.trans (hba2.mono hb0.size)
      cases hok : holdsOk s.holds
      · have hc : checkHolds s.holds = 1 := by unfold checkHolds; rw [hok]; rfl
        have hfin := Lib.hid (show formed p s = false by rw [hrest.out, hok]; rfl)
        rw [hc]
        clear hc hok
        go_wp2_with fail
        go_ret
        exact ⟨ret_bool (by rw [hfin.out]), hB2⟩
      · have hc : checkHolds s.holds = 0 := check_ok0 hok
        have hn0 := Lib.hid (fun k (hk : k < s.holds.length) => (ok_key hok hk).1.1)
        have hr1 := Lib.hid (hrest.out.trans (by rw [hok, Bool.true_and]))
        rw [hc]
        clear hc hok
        obtain ⟨⟨y0, y1⟩, x1, x2, x3, x4, x5, x6⟩ := hK.out W2 hba2
        go_wp2_with fail
        clear y0 y1 x1 x2 x3 x4 x5 x6
        have hbc0 : wr.heap.size < W1.heap.size := by omega
        refine (containsFuncHold _ _ s.holds 45 #[.pointer (some ⟨wr.heap.size, 0, none⟩)] (fun x => !holdIn p s x) entersBadHold (hH.out W2 hB2) (fun j hj W hW => by
          have hW1 := hb2.trans (hW.mono hb2.size)
          have hW2 := hba2.trans (hW.mono hba2.size)
          obtain ⟨⟨a0, a1⟩, e1, _⟩ := hK.out W hW2
          have hBW := hb0.trans (hW2.mono hb0.size)
          exact sBadHold p s _ W wr.heap.size (w.heap.size + 1) w.heap.size A1 Ab c1 cb ((hW1.cell (p := ⟨wr.heap.size, 0, none⟩) hbc0).trans hz9'.out.1) (Nat.lt_of_lt_of_le hbc0 hW1.size) e1 a0 (Nat.lt_of_lt_of_le hsz0 hW2.size) (Nat.lt_of_lt_of_le hsz1 hW2.size)
            (hO.out W hBW) (hn0.out j hj) (by omega) hl3'.out)).mono ?_
        rintro e W3 ⟨rfl, hb3⟩
        have hba3 := hba2.trans (hb3.mono hba2.size)
        have hB3 := hb0.trans (hba3.mono hb0.size)
        cases hh : (s.holds.any fun x => !holdIn p s x)
        · have hr2 := Lib.hid (hr1.out.trans (by rw [hh, Bool.not_false, Bool.true_and]))
          obtain ⟨⟨y0, y1⟩, x1, x2, x3, x4, x5, x6⟩ := hK.out W3 hba3
          clear hh
          go_wp2_with fail
          clear y0 y1 x1 x2 x3 x4 x5 x6
          refine (containsFuncMove _ _ s.moves 47 #[.pointer (some ⟨wr.heap.size + 1, 0, none⟩)] (fun x => !moveOk p x) entersBadMove (hM.out W3 hB3) (fun j hj W hW => by
            have hb13 := hb2.trans (hb3.mono hb2.size)
            have hW1 := hb13.trans (hW.mono hb13.size)
            have hW3 := hba3.trans (hW.mono hba3.size)
            obtain ⟨⟨a0, a1⟩, e1, _⟩ := hK.out W hW3
            have hBW := hb0.trans (hW3.mono hb0.size)
            exact sBadMove p _ W (wr.heap.size + 1) w.heap.size Ab As cb cs ((hW1.cell (p := ⟨wr.heap.size + 1, 0, none⟩) hbc).trans hz9'.out.2) (Nat.lt_of_lt_of_le hbc hW1.size) a0 a1 (Nat.lt_of_lt_of_le hsz1 hW3.size) (hP'.out W hBW))).mono ?_
          rintro e W4 ⟨rfl, hb4⟩
          have hba4 := hba3.trans (hb4.mono hba3.size)
          have hB4 := hb0.trans (hba4.mono hb0.size)
          cases hmv : (s.moves.any fun x => !moveOk p x)
          · have hr3 := Lib.hid (hr2.out.trans (by rw [hmv, Bool.not_false, Bool.true_and]))
            obtain ⟨⟨y0, y1⟩, x1, x2, x3, x4, x5, x6⟩ := hK.out W4 hba4
            clear hmv
            go_wp2_with fail
            clear y0 y1 x1 x2 x3 x4 x5 x6
            refine (sSums _ _ _ p s.inn 0 (hP'.out W4 hB4) (hI.out W4 hB4) hz'.out).mono ?_
            rintro e W5 ⟨rfl, hb5⟩
            have hba5 := hba4.trans (hb5.mono hba4.size)
            have hB5 := hb0.trans (hba5.mono hb0.size)
            cases hq1 : sumsOk p s.inn 0
            · have hfin := Lib.hid (show formed p s = false by rw [hr3.out, hq1]; rfl)
              clear hq1
              go_wp2_with fail
              go_ret
              exact ⟨ret_bool (by rw [hfin.out]), hB5⟩
            · have hr4 := Lib.hid (hr3.out.trans (by rw [hq1, Bool.true_and]))
              obtain ⟨⟨y0, y1⟩, x1, x2, x3, x4, x5, x6⟩ := hK.out W5 hba5
              clear hq1
              go_wp2_with fail
              clear y0 y1 x1 x2 x3 x4 x5 x6
              refine (sSums _ _ _ p s.out 0 (hP'.out W5 hB5) (hU.out W5 hB5) hz'.out).mono ?_
              rintro e W6 ⟨rfl, hb6⟩
              have hba6 := hba5.trans (hb6.mono hba5.size)
              have hB6 := hb0.trans (hba6.mono hb0.size)
              cases hq2 : sumsOk p s.out 0
              · have hfin := Lib.hid (show formed p s = false by rw [hr4.out, hq2]; rfl)
                clear hq2
                go_wp2_with fail
                go_ret
                exact ⟨ret_bool (by rw [hfin.out]), hB6⟩
              · have hr5 := Lib.hid (hr4.out.trans (by rw [hq2, Bool.true_and]))
                obtain ⟨⟨y0, y1⟩, x1, x2, x3, x4, x5, x6⟩ := hK.out W6 hba6
                clear hq2
                go_wp2_with fail
                clear y0 y1 x1 x2 x3 x4 x5 x6
                refine (sSums _ _ _ p s.fixed (-1048576) (hP'.out W6 hB6) (hX.out W6 hB6) hz'.out).mono ?_
                rintro e W7 ⟨rfl, hb7⟩
                have hB7 := hB6.trans (hb7.mono hB6.size)
                go_wp2_with fail
                go_ret
                exact ⟨ret_bool (by rw [hr5.out]), hB7⟩
          · have hfin := Lib.hid (show formed p s = false by rw [hr2.out, hmv]; rfl)
            clear hmv
            go_wp2_with fail
            go_ret
            exact ⟨ret_bool (by rw [hfin.out]), hB4⟩
        · have hfin := Lib.hid (show formed p s = false by rw [hr1.out, hh]; rfl)
          clear hh
          go_wp2_with fail
          go_ret
          exact ⟨ret_bool (by rw [hfin.out]), hB3⟩
end Wh
