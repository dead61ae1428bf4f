/- Texts of the claim, joined: StateA, WalkD, WalkE, WalkF, WalkG, WalkH, WalkI. -/
import Derived.Test.YtfhfkijmebhgmaaGreatQ06
import Derived.Test.YtfhfkijmebhgmaaGreatQ04
import Derived.Test.YtfhfkijmebhgmaaGreatQ03
namespace Wh
open Go Go.RowKit Go.Shelf Go.Proofs
attribute [local go_sem] run_indexAt_letter

theorem held_cases (s : State) (b g : Int) (h : Hold) : ((h.bin == b) = false ∧ heldN s b g h = 0) ∨ ((h.bin == b) = true ∧ ((s.line h.order.toNat h.line.toNat).good == g) = false ∧ heldN s b g h = 0) ∨
    ((h.bin == b) = true ∧ ((s.line h.order.toNat h.line.toNat).good == g) = true ∧ heldN s b g h = h.n) := by
  unfold heldN
  by_cases h1 : h.bin = b <;> by_cases h2 : (s.line h.order.toNat h.line.toNat).good = g <;> simp [h1, h2]
theorem from_cases (b g : Int) (x : Move) : ((x.src == b) = false ∧ fromN b g x = 0) ∨ ((x.src == b) = true ∧ (x.good == g) = false ∧ fromN b g x = 0) ∨ ((x.src == b) = true ∧ (x.good == g) = true ∧ fromN b g x = x.n) := by
  unfold fromN
  by_cases h1 : x.src = b <;> by_cases h2 : x.good = g <;> simp [h1, h2]
set_option maxHeartbeats 4000000 in
set_option maxRecDepth 10000 in
theorem rBound (w : World) (v : Value) (p : Plan) (s : State) (b g : Int) (hv : StateV w w.heap.size v s) (hs : Sane p s) :
    Calls Tryz.prog 70 #[v, .int .i64 b, .int .i64 g] w fun e w' => e = .returned (.int .i64 (bound s b g)) ∧ Below w.heap.size w w' := by
  have hS := hv
  obtain ⟨_, _, _, _, _, _, _, rfl, ⟨A0, c0, vs0, rfl, hl0, hm0, ha0, hr0⟩, ⟨A1, c1, vs1, rfl, hl1, hm1, ha1, hr1⟩, ⟨A2, c2, rfl, hl2, ha2⟩, ⟨A3, c3, rfl, hl3, ha3⟩, ⟨A4, c4, rfl, hl4, ha4⟩, ⟨A5, c5, rfl, hl5, ha5⟩, ⟨A6, c6, rfl, hl6, ha6⟩⟩ := hv
  have hb0 : Below w.heap.size w (w.alloc (.cells #[.slice A0 s.on.length c0, .slice A1 s.orders.length c1, .slice A2 s.holds.length c2, .slice A3 s.moves.length c3, .slice A4 s.inn.length c4, .slice A5 s.out.length c5, .slice A6 s.fixed.length c6] 31)) := (Below.refl _ _).alloc (Nat.le_refl _) _
  have hsz0 : w.heap.size < (w.alloc (.cells #[.slice A0 s.on.length c0, .slice A1 s.orders.length c1, .slice A2 s.holds.length c2, .slice A3 s.moves.length c3, .slice A4 s.inn.length c4, .slice A5 s.out.length c5, .slice A6 s.fixed.length c6] 31)).heap.size := by simp
  have hz0 : (w.alloc (.cells #[.slice A0 s.on.length c0, .slice A1 s.orders.length c1, .slice A2 s.holds.length c2, .slice A3 s.moves.length c3, .slice A4 s.inn.length c4, .slice A5 s.out.length c5, .slice A6 s.fixed.length c6] 31)).cell? ⟨w.heap.size, 1, none⟩ = some (.slice A1 s.orders.length c1) ∧ (w.alloc (.cells #[.slice A0 s.on.length c0, .slice A1 s.orders.length c1, .slice A2 s.holds.length c2, .slice A3 s.moves.length c3, .slice A4 s.inn.length c4, .slice A5 s.out.length c5, .slice A6 s.fixed.length c6] 31)).cell? ⟨w.heap.size, 2, none⟩ = some (.slice A2 s.holds.length c2) ∧ (w.alloc (.cells #[.slice A0 s.on.length c0, .slice A1 s.orders.length c1, .slice A2 s.holds.length c2, .slice A3 s.moves.length c3, .slice A4 s.inn.length c4, .slice A5 s.out.length c5, .slice A6 s.fixed.length c6] 31)).cell? ⟨w.heap.size, 3, none⟩ = some (.slice A3 s.moves.length c3) := by simp
  have ho1 : ∀ W, Below w.heap.size w W → SlOrders W W.heap.size (.slice A1 s.orders.length c1) s.orders := fun W hW => SlOrders.up ⟨A1, c1, vs1, rfl, hl1, hm1, ha1, hr1⟩ hW hW.size
  have ho1' := Lib.hid ho1
  have hs72 := ok_len72 hs.holds
  have hs8 := hs.moves8
  have hs4 := hs.orders4
  have hsH := Lib.hid hs
  clear ho1 hs
  go_enter Tryz.func70, Tryz.ntmps70
  go_wp2_with fail
  generalize hW0 : w.alloc (.cells #[.slice A0 s.on.length c0, .slice A1 s.orders.length c1, .slice A2 s.holds.length c2, .slice A3 s.moves.length c3, .slice A4 s.inn.length c4, .slice A5 s.out.length c5, .slice A6 s.fixed.length c6] 31) = W0 at hb0 hsz0 hz0 ⊢
  obtain ⟨z1, z2, z3⟩ := hz0
  clear hW0
  go_loopw [7, 8, 9] (fun n i _ wr => ∃ k : Nat, k ≤ s.holds.length ∧ i = .int .i64 k ∧ n = .int .i64 (heldTo s b g k) ∧ Below W0.heap.size W0 wr) (fun n i _ _ => s.holds.length - (intOf i).toNat)
  case atStart => exact ⟨0, Nat.zero_le _, rfl, rfl, Below.refl _ _⟩
  case round =>
    obtain ⟨k, hk, rfl, rfl, hbw⟩ := hrel
    obtain ⟨r1, r2⟩ := heldTo_range hsH.out b g k
    have y1 := (hbw.cell (p := ⟨w.heap.size, 1, none⟩) hsz0).trans z1
    have y2 := (hbw.cell (p := ⟨w.heap.size, 2, none⟩) hsz0).trans z2
    have y3 := (hbw.cell (p := ⟨w.heap.size, 3, none⟩) hsz0).trans z3
    have hbz : w.heap.size < wr.heap.size := Nat.lt_of_lt_of_le hsz0 hbw.size
    have hB := hb0.trans (hbw.mono hb0.size)
    by_cases hlt : k < s.holds.length
    · obtain ⟨hok, hAb, b0, b1, b2, b3⟩ := (ha2.up hB hB.size).hold hlt
      obtain ⟨⟨i1, i2⟩, ⟨i3, i4⟩, _, i7, i8⟩ := hsH.out.holdAt hlt
      have hol : (hold s.holds k).order.toNat < s.orders.length := by omega
      obtain ⟨A', c', hok1, hAb1, _, d1, hsl⟩ := (ho1'.out wr hB).order hol
      have hll : (hold s.holds k).line.toNat < (orderAt s.orders (hold s.holds k).order.toNat).lines.length := by unfold State.order at i4; omega
      obtain ⟨hok2, hAb2, e0, _, _, _⟩ := hsl.at_.line hll
      have hsucc := heldTo_succ (s := s) (b := b) (g := g) hlt
      have i4' : (hold s.holds k).line < ((orderAt s.orders (hold s.holds k).order.toNat).lines.length : Int) := i4
      have hba : Below W0.heap.size W0 (wr.alloc (.cells #[.int .i64 (hold s.holds k).order, .int .i64 (hold s.holds k).line, .int .i64 (hold s.holds k).bin, .int .i64 (hold s.holds k).n] 46)) := hbw.alloc hbw.size _
      have hca : wr.heap.size < (wr.alloc (.cells #[.int .i64 (hold s.holds k).order, .int .i64 (hold s.holds k).line, .int .i64 (hold s.holds k).bin, .int .i64 (hold s.holds k).n] 46)).heap.size := by simp
      have q0 := fun o d os => cells_wld (w := wr.alloc (.cells #[.int .i64 (hold s.holds k).order, .int .i64 (hold s.holds k).line, .int .i64 (hold s.holds k).bin, .int .i64 (hold s.holds k).n] 46)) (b := w.heap.size) (by simp; omega) o d os
      have q1 := fun o d os => cells_wld (w := wr.alloc (.cells #[.int .i64 (hold s.holds k).order, .int .i64 (hold s.holds k).line, .int .i64 (hold s.holds k).bin, .int .i64 (hold s.holds k).n] 46)) (b := wr.heap.size) hca o d os
      have q2 := fun o d os => cells_wld (w := wr.alloc (.cells #[.int .i64 (hold s.holds k).order, .int .i64 (hold s.holds k).line, .int .i64 (hold s.holds k).bin, .int .i64 (hold s.holds k).n] 46)) (b := ablk A1) (by simp; omega) o d os
      have q3 := fun o d os => cells_wld (w := wr.alloc (.cells #[.int .i64 (hold s.holds k).order, .int .i64 (hold s.holds k).line, .int .i64 (hold s.holds k).bin, .int .i64 (hold s.holds k).n] 46)) (b := ablk A') (by simp; omega) o d os
      have hl : lineAt (orderAt s.orders (hold s.holds k).order.toNat).lines (hold s.holds k).line.toNat = s.line (hold s.holds k).order.toNat (hold s.holds k).line.toNat := rfl
      rw [hl] at e0
      have hll' := Lib.hid hll
      clear i4 hl hll
      rcases held_cases s b g (hold s.holds k) with ⟨g1, gh⟩ | ⟨g1, g2, gh⟩ | ⟨g1, g2, gh⟩
      all_goals
        rw [gh] at hsucc
        have hsu := Lib.hid hsucc
        clear hsucc gh
        go_wp2_with fail
        refine wp_region_wld (by kernel_rfl) (by kernel_rfl) ?_
        repeat (go_big_quiet_step (fail))
        refine wpQuiet_nil ?_
        intro W2 hw'
        have hb2 := below_of_cls hw'
        clear hw'
        obtain ⟨hc2, hf2⟩ := bcell hb2
        clear q0 q1 q2 q3
        go_wp2_with fail
        go_roundw
        case rel => exact ⟨k + 1, by omega, by go_num, by rw [hsu.out] <;> first | rfl | simp, hba.trans (hb2.mono hba.size)⟩
        case measure => simp [intOf]; omega
    · obtain rfl : k = s.holds.length := by omega
      rw [heldTo_all] at r1 r2 ⊢
      go_wp2_with fail
      go_loopw [7, 10] (fun n i wr => ∃ k : Nat, k ≤ s.moves.length ∧ i = .int .i64 k ∧ n = .int .i64 (heldIn s b g + goingTo s.moves b g k) ∧ Below W0.heap.size W0 wr) (fun n i _ => s.moves.length - (intOf i).toNat)
      case atStart => exact ⟨0, Nat.zero_le _, rfl, by unfold goingTo; simp, hbw⟩
      case round =>
        clear hbw y1 y2 y3 hbz hB
        obtain ⟨k, hk, rfl, rfl, hbw⟩ := hrel
        obtain ⟨t1, t2⟩ := goingTo_range hsH.out b g k
        have y3 := (hbw.cell (p := ⟨w.heap.size, 3, none⟩) hsz0).trans z3
        have hbz : w.heap.size < wr.heap.size := Nat.lt_of_lt_of_le hsz0 hbw.size
        have hB := hb0.trans (hbw.mono hb0.size)
        by_cases hlt : k < s.moves.length
        · obtain ⟨hok, hAb, b0, b1, b2, b3⟩ := (ha3.up hB hB.size).move hlt
          obtain ⟨_, _, _, _, i7, i8⟩ := hsH.out.moveAt hlt
          have hsucc := goingTo_succ (b := b) (g := g) hlt
          rcases from_cases b g (moveAt s.moves k) with ⟨g1, gh⟩ | ⟨g1, g2, gh⟩ | ⟨g1, g2, gh⟩
          all_goals
            rw [gh] at hsucc
            have hsu := Lib.hid hsucc
            clear hsucc gh
            go_wp2_with fail
            go_roundw
            case rel => exact ⟨k + 1, by omega, by go_num, by rw [hsu.out] <;> first | rfl | (simp <;> omega), hbw⟩
            case measure => simp [intOf]; omega
        · obtain rfl : k = s.moves.length := by omega
          have hall := goingTo_all s.moves b g
          rw [hall] at t1 t2 ⊢
          clear hall
          go_wp2_with fail
          go_ret
          exact ⟨rfl, hB⟩

set_option maxHeartbeats 4000000 in
set_option maxRecDepth 10000 in
theorem sBound (w : World) (v : Value) (p : Plan) (s : State) (b g : Int) (hv : StateV w w.heap.size v s) (hs : Sane p s) :
    Calls Tryz.prog 62 #[v, .int .i64 b, .int .i64 g] w fun e w' => e = .returned (.int .i64 (bound s b g)) ∧ Below w.heap.size w w' := by
  have hS := hv
  obtain ⟨_, _, _, _, _, _, _, rfl, ⟨A0, c0, vs0, rfl, hl0, hm0, ha0, hr0⟩, ⟨A1, c1, vs1, rfl, hl1, hm1, ha1, hr1⟩, ⟨A2, c2, rfl, hl2, ha2⟩, ⟨A3, c3, rfl, hl3, ha3⟩, ⟨A4, c4, rfl, hl4, ha4⟩, ⟨A5, c5, rfl, hl5, ha5⟩, ⟨A6, c6, rfl, hl6, ha6⟩⟩ := hv
  have hb0 : Below w.heap.size w (w.alloc (.cells #[.slice A0 s.on.length c0, .slice A1 s.orders.length c1, .slice A2 s.holds.length c2, .slice A3 s.moves.length c3, .slice A4 s.inn.length c4, .slice A5 s.out.length c5, .slice A6 s.fixed.length c6] 31)) := (Below.refl _ _).alloc (Nat.le_refl _) _
  have hsz0 : w.heap.size < (w.alloc (.cells #[.slice A0 s.on.length c0, .slice A1 s.orders.length c1, .slice A2 s.holds.length c2, .slice A3 s.moves.length c3, .slice A4 s.inn.length c4, .slice A5 s.out.length c5, .slice A6 s.fixed.length c6] 31)).heap.size := by simp
  have hz0 : (w.alloc (.cells #[.slice A0 s.on.length c0, .slice A1 s.orders.length c1, .slice A2 s.holds.length c2, .slice A3 s.moves.length c3, .slice A4 s.inn.length c4, .slice A5 s.out.length c5, .slice A6 s.fixed.length c6] 31)).cell? ⟨w.heap.size, 1, none⟩ = some (.slice A1 s.orders.length c1) ∧ (w.alloc (.cells #[.slice A0 s.on.length c0, .slice A1 s.orders.length c1, .slice A2 s.holds.length c2, .slice A3 s.moves.length c3, .slice A4 s.inn.length c4, .slice A5 s.out.length c5, .slice A6 s.fixed.length c6] 31)).cell? ⟨w.heap.size, 2, none⟩ = some (.slice A2 s.holds.length c2) ∧ (w.alloc (.cells #[.slice A0 s.on.length c0, .slice A1 s.orders.length c1, .slice A2 s.holds.length c2, .slice A3 s.moves.length c3, .slice A4 s.inn.length c4, .slice A5 s.out.length c5, .slice A6 s.fixed.length c6] 31)).cell? ⟨w.heap.size, 3, none⟩ = some (.slice A3 s.moves.length c3) := by simp
  have ho1 : ∀ W, Below w.heap.size w W → SlOrders W W.heap.size (.slice A1 s.orders.length c1) s.orders := fun W hW => SlOrders.up ⟨A1, c1, vs1, rfl, hl1, hm1, ha1, hr1⟩ hW hW.size
  have ho1' := Lib.hid ho1
  have hs72 := ok_len72 hs.holds
  have hs8 := hs.moves8
  have hs4 := hs.orders4
  have hsH := Lib.hid hs
  clear ho1 hs
  go_enter Tryz.func62, Tryz.ntmps62
  go_wp2_with fail
  generalize hW0 : w.alloc (.cells #[.slice A0 s.on.length c0, .slice A1 s.orders.length c1, .slice A2 s.holds.length c2, .slice A3 s.moves.length c3, .slice A4 s.inn.length c4, .slice A5 s.out.length c5, .slice A6 s.fixed.length c6] 31) = W0 at hb0 hsz0 hz0 ⊢
  obtain ⟨z1, z2, z3⟩ := hz0
  clear hW0
  go_loopw [7, 15, 9] (fun n i _ wr => ∃ k : Nat, k ≤ s.holds.length ∧ i = .int .i64 k ∧ n = .int .i64 (heldTo s b g k) ∧ Below W0.heap.size W0 wr) (fun n i _ _ => s.holds.length - (intOf i).toNat)
  case atStart => exact ⟨0, Nat.zero_le _, rfl, rfl, Below.refl _ _⟩
  case round =>
    obtain ⟨k, hk, rfl, rfl, hbw⟩ := hrel
    obtain ⟨r1, r2⟩ := heldTo_range hsH.out b g k
    have y1 := (hbw.cell (p := ⟨w.heap.size, 1, none⟩) hsz0).trans z1
    have y2 := (hbw.cell (p := ⟨w.heap.size, 2, none⟩) hsz0).trans z2
    have y3 := (hbw.cell (p := ⟨w.heap.size, 3, none⟩) hsz0).trans z3
    have hbz : w.heap.size < wr.heap.size := Nat.lt_of_lt_of_le hsz0 hbw.size
    have hB := hb0.trans (hbw.mono hb0.size)
    by_cases hlt : k < s.holds.length
    · obtain ⟨hok, hAb, b0, b1, b2, b3⟩ := (ha2.up hB hB.size).hold hlt
      obtain ⟨⟨i1, i2⟩, ⟨i3, i4⟩, _, i7, i8⟩ := hsH.out.holdAt hlt
      have hol : (hold s.holds k).order.toNat < s.orders.length := by omega
      obtain ⟨A', c', hok1, hAb1, _, d1, hsl⟩ := (ho1'.out wr hB).order hol
      have hll : (hold s.holds k).line.toNat < (orderAt s.orders (hold s.holds k).order.toNat).lines.length := by unfold State.order at i4; omega
      obtain ⟨hok2, hAb2, e0, _, _, _⟩ := hsl.at_.line hll
      have hsucc := heldTo_succ (s := s) (b := b) (g := g) hlt
      have i4' : (hold s.holds k).line < ((orderAt s.orders (hold s.holds k).order.toNat).lines.length : Int) := i4
      have hba : Below W0.heap.size W0 (wr.alloc (.cells #[.int .i64 (hold s.holds k).order, .int .i64 (hold s.holds k).line, .int .i64 (hold s.holds k).bin, .int .i64 (hold s.holds k).n] 46)) := hbw.alloc hbw.size _
      have hca : wr.heap.size < (wr.alloc (.cells #[.int .i64 (hold s.holds k).order, .int .i64 (hold s.holds k).line, .int .i64 (hold s.holds k).bin, .int .i64 (hold s.holds k).n] 46)).heap.size := by simp
      have q0 := fun o d os => cells_wld (w := wr.alloc (.cells #[.int .i64 (hold s.holds k).order, .int .i64 (hold s.holds k).line, .int .i64 (hold s.holds k).bin, .int .i64 (hold s.holds k).n] 46)) (b := w.heap.size) (by simp; omega) o d os
      have q1 := fun o d os => cells_wld (w := wr.alloc (.cells #[.int .i64 (hold s.holds k).order, .int .i64 (hold s.holds k).line, .int .i64 (hold s.holds k).bin, .int .i64 (hold s.holds k).n] 46)) (b := wr.heap.size) hca o d os
      have q2 := fun o d os => cells_wld (w := wr.alloc (.cells #[.int .i64 (hold s.holds k).order, .int .i64 (hold s.holds k).line, .int .i64 (hold s.holds k).bin, .int .i64 (hold s.holds k).n] 46)) (b := ablk A1) (by simp; omega) o d os
      have q3 := fun o d os => cells_wld (w := wr.alloc (.cells #[.int .i64 (hold s.holds k).order, .int .i64 (hold s.holds k).line, .int .i64 (hold s.holds k).bin, .int .i64 (hold s.holds k).n] 46)) (b := ablk A') (by simp; omega) o d os
      have hl : lineAt (orderAt s.orders (hold s.holds k).order.toNat).lines (hold s.holds k).line.toNat = s.line (hold s.holds k).order.toNat (hold s.holds k).line.toNat := rfl
      rw [hl] at e0
      have hll' := Lib.hid hll
      clear i4 hl hll
      rcases held_cases s b g (hold s.holds k) with ⟨g1, gh⟩ | ⟨g1, g2, gh⟩ | ⟨g1, g2, gh⟩
      all_goals
        rw [gh] at hsucc
        have hsu := Lib.hid hsucc
        clear hsucc gh
        go_wp2_with fail
        refine wp_region_wld (by kernel_rfl) (by kernel_rfl) ?_
        repeat (go_big_quiet_step (fail))
        refine wpQuiet_nil ?_
        intro W2 hw'
        have hb2 := below_of_cls hw'
        clear hw'
        obtain ⟨hc2, hf2⟩ := bcell hb2
        clear q0 q1 q2 q3
        go_wp2_with fail
        go_roundw
        case rel => exact ⟨k + 1, by omega, by go_num, by rw [hsu.out] <;> first | rfl | simp, hba.trans (hb2.mono hba.size)⟩
        case measure => simp [intOf]; omega
    · obtain rfl : k = s.holds.length := by omega
      rw [heldTo_all] at r1 r2 ⊢
      go_wp2_with fail
      go_loopw [7, 47, 11] (fun n i _ wr => ∃ k : Nat, k ≤ s.moves.length ∧ i = .int .i64 k ∧ n = .int .i64 (heldIn s b g + goingTo s.moves b g k) ∧ Below W0.heap.size W0 wr) (fun n i _ _ => s.moves.length - (intOf i).toNat)
      case atStart => exact ⟨0, Nat.zero_le _, rfl, by unfold goingTo; simp, hbw⟩
      case round =>
        clear hbw y1 y2 y3 hbz hB
        obtain ⟨k, hk, rfl, rfl, hbw⟩ := hrel
        obtain ⟨t1, t2⟩ := goingTo_range hsH.out b g k
        have y3 := (hbw.cell (p := ⟨w.heap.size, 3, none⟩) hsz0).trans z3
        have hbz : w.heap.size < wr.heap.size := Nat.lt_of_lt_of_le hsz0 hbw.size
        have hB := hb0.trans (hbw.mono hb0.size)
        by_cases hlt : k < s.moves.length
        · obtain ⟨hok, hAb, b0, b1, b2, b3⟩ := (ha3.up hB hB.size).move hlt
          obtain ⟨_, _, _, _, i7, i8⟩ := hsH.out.moveAt hlt
          have hsucc := goingTo_succ (b := b) (g := g) hlt
          rcases from_cases b g (moveAt s.moves k) with ⟨g1, gh⟩ | ⟨g1, g2, gh⟩ | ⟨g1, g2, gh⟩
          all_goals
            rw [gh] at hsucc
            have hsu := Lib.hid hsucc
            clear hsucc gh
            go_wp2_with fail
            go_roundw
            case rel => exact ⟨k + 1, by omega, by go_num, by rw [hsu.out] <;> first | rfl | (simp <;> omega), hbw.alloc hbw.size (.cells #[.int .i64 (moveAt s.moves k).good, .int .i64 (moveAt s.moves k).src, .int .i64 (moveAt s.moves k).dst, .int .i64 (moveAt s.moves k).n] 48)⟩
            case measure => simp [intOf]; omega
        · obtain rfl : k = s.moves.length := by omega
          have hall := goingTo_all s.moves b g
          rw [hall] at t1 t2 ⊢
          clear hall
          go_wp2_with fail
          go_ret
          exact ⟨rfl, hB⟩

end Wh
namespace Wh
open Go Go.RowKit Go.Shelf Go.Proofs
attribute [local go_sem] run_indexAt_letter

set_option maxHeartbeats 400000 in
theorem pWithin (n lo hi : Int) (w : World) :
    Calls Tryz.prog 147 #[.int .i64 n, .int .i64 lo, .int .i64 hi] w fun e w' => e = .returned (.bool (within n lo hi)) ∧ w = w' := by
  go_enter Tryz.func147, Tryz.ntmps147
  by_cases h1 : lo ≤ n
  · by_cases h2 : n ≤ hi
    · go_wp2
      go_ret
      exact ⟨by simp [within, h1, h2], rfl⟩
    · go_wp2
      go_ret
      exact ⟨by simp [within]; omega, rfl⟩
  · go_wp2
    go_ret
    exact ⟨by simp [within]; omega, rfl⟩

set_option maxHeartbeats 400000 in
theorem planBad (b : Bin) (W : World) :
    Calls Tryz.prog 149 #[vBin b] W fun e W' => e = .returned (.bool (!binOk b)) ∧ Below W.heap.size W W' := by
  unfold vBin
  go_enter Tryz.func149, Tryz.ntmps149
  rcases binOk_bad b with ⟨h1, h⟩ | ⟨h1, h2, h⟩ | ⟨h1, h2, h3, h⟩ | ⟨h1, h2, h3, h⟩
  · go_wp2_with (go_at_call 147; refine (pWithin _ _ _ _).mono ?_; rintro e w' ⟨rfl, rfl⟩)
    go_ret
    exact ⟨ret_bool (by rw [h]; rfl), (Below.refl _ _).alloc (Nat.le_refl _) _⟩
  · go_wp2_with (go_at_call 147; refine (pWithin _ _ _ _).mono ?_; rintro e w' ⟨rfl, rfl⟩)
    go_ret
    exact ⟨ret_bool (by rw [h]; rfl), (Below.refl _ _).alloc (Nat.le_refl _) _⟩
  · go_wp2_with (go_at_call 147; refine (pWithin _ _ _ _).mono ?_; rintro e w' ⟨rfl, rfl⟩)
    go_ret
    exact ⟨ret_bool (by rw [h]; rfl), (Below.refl _ _).alloc (Nat.le_refl _) _⟩
  · go_wp2_with (go_at_call 147; refine (pWithin _ _ _ _).mono ?_; rintro e w' ⟨rfl, rfl⟩)
    go_ret
    exact ⟨ret_bool (by rw [h]; simp; omega), (Below.refl _ _).alloc (Nat.le_refl _) _⟩

theorem entersBad : Enters Tryz.prog 149 := enters_of Tryz.func149 (by kernel_rfl) rfl

set_option maxHeartbeats 1000000 in
theorem planCheck (w : World) (v : Value) (p : Plan) (hp : PlanV w w.heap.size v p) :
    Calls Tryz.prog 87 #[v] w fun e w' => e = .returned (.int .i64 (checkPlan p)) ∧ Below w.heap.size w w' := by
  obtain ⟨_, _, rfl, ⟨Ab, cb, rfl, hlb, hb⟩, ⟨As, cs, rfl, hls, hs⟩⟩ := hp
  have hb0 : Below w.heap.size w (w.alloc (.cells #[.slice Ab p.bins.length cb, .slice As p.sizes.length cs] 25)) := (Below.refl _ _).alloc (Nat.le_refl _) _
  go_enter Tryz.func87, Tryz.ntmps87
  cases h1 : within p.bins.length 1 6
  · go_wp2_with (go_at_call 147; refine (pWithin _ _ _ _).mono ?_; rintro e w' ⟨rfl, rfl⟩)
    go_ret
    exact ⟨ret_int (checkPlan_two (.inl h1)).symm, hb0⟩
  cases h2 : within p.sizes.length 1 3
  · go_wp2_with (go_at_call 147; refine (pWithin _ _ _ _).mono ?_; rintro e w' ⟨rfl, rfl⟩)
    go_ret
    exact ⟨ret_int (checkPlan_two (.inr h2)).symm, hb0⟩
  have hpos : 0 < p.sizes.length := by have := within_iff.1 h2; omega
  have hsb : ∀ W, Below w.heap.size w W → Sl cBin W W.heap.size (.slice Ab p.bins.length cb) p.bins := fun W hW => Sl.up ⟨Ab, cb, rfl, hlb, hb⟩ hW hW.size
  have hss : ∀ W, Below w.heap.size w W → Sl cInt W W.heap.size (.slice As p.sizes.length cs) p.sizes := fun W hW => Sl.up ⟨As, cs, rfl, hls, hs⟩ hW hW.size
  go_wp2_with (go_at_call 147; refine (pWithin _ _ _ _).mono ?_; rintro e w' ⟨rfl, rfl⟩)
  refine (containsFuncBin _ _ p.bins 149 #[] (fun b => !binOk b) entersBad (hsb _ hb0) (fun k _ W _ => planBad _ W)).mono ?_
  rintro e W1 ⟨rfl, hb1⟩
  have hbw := hb0.trans (hb1.mono (by simp))
  have hsz := hb1.size
  obtain ⟨hc1, hf1⟩ := bcell hb1
  cases hbad : (p.bins.any fun b => !binOk b)
  · go_wp2_with fail
    refine (slMin _ _ p.sizes (hss _ hbw) hpos).mono ?_
    rintro e w' ⟨rfl, rfl⟩
    by_cases hlo : lowest p.sizes < 1
    · go_wp2_with fail
      go_ret
      exact ⟨ret_int (checkPlan_lowest h1 h2 hlo).symm, hbw⟩
    · go_wp2_with fail
      refine (slMax _ _ p.sizes (hss _ hbw) hpos).mono ?_
      rintro e w' ⟨rfl, rfl⟩
      by_cases hgr : 9 < greatest p.sizes
      · go_wp2_with fail
        go_ret
        exact ⟨ret_int (checkPlan_greatest h1 h2 hgr).symm, hbw⟩
      · go_wp2_with fail
        go_ret
        exact ⟨ret_int (checkPlan_good h1 h2 hbad (by omega) (by omega)).symm, hbw⟩
  · go_wp2_with fail
    go_ret
    exact ⟨ret_int (checkPlan_bad h1 h2 hbad).symm, hbw⟩
end Wh
namespace Wh
open Go Go.RowKit Go.Shelf Go.Proofs
attribute [local go_sem] run_indexAt_letter

set_option maxHeartbeats 400000 in
theorem rIsBin (w : World) (v : Value) (p : Plan) (b : Int) (hp : PlanV w w.heap.size v p) (hn : p.bins.length ≤ 1000) :
    Calls Tryz.prog 68 #[v, .int .i64 b] w fun e w' => e = .returned (.bool (isBin p b)) ∧ Below w.heap.size w w' := by
  obtain ⟨_, _, rfl, ⟨Ab, cb, rfl, hlb, hb⟩, ⟨As, cs, rfl, hls, hs⟩⟩ := hp
  go_enter Tryz.func68, Tryz.ntmps68
  go_wp2_with (go_at_call 38; refine (rWithin _ _ _ _).mono ?_; rintro e w' ⟨rfl, rfl⟩)
  go_ret
  exact ⟨rfl, (Below.refl _ _).alloc (Nat.le_refl _) _⟩
set_option maxHeartbeats 400000 in
theorem rIsGood (w : World) (v : Value) (p : Plan) (g : Int) (hp : PlanV w w.heap.size v p) (hn : p.sizes.length ≤ 1000) :
    Calls Tryz.prog 69 #[v, .int .i64 g] w fun e w' => e = .returned (.bool (isGood p g)) ∧ Below w.heap.size w w' := by
  obtain ⟨_, _, rfl, ⟨Ab, cb, rfl, hlb, hb⟩, ⟨As, cs, rfl, hls, hs⟩⟩ := hp
  go_enter Tryz.func69, Tryz.ntmps69
  go_wp2_with (go_at_call 38; refine (rWithin _ _ _ _).mono ?_; rintro e w' ⟨rfl, rfl⟩)
  go_ret
  exact ⟨rfl, (Below.refl _ _).alloc (Nat.le_refl _) _⟩

theorem there_parts (p : Plan) (b g : Int) : (b < 0 ∧ (isBin p b && isGood p g) = false) ∨ (0 ≤ b ∧ (p.bins.length : Int) ≤ b ∧ (isBin p b && isGood p g) = false) ∨
    (0 ≤ b ∧ b < p.bins.length ∧ g < 0 ∧ (isBin p b && isGood p g) = false) ∨ (0 ≤ b ∧ b < p.bins.length ∧ 0 ≤ g ∧ (p.sizes.length : Int) ≤ g ∧ (isBin p b && isGood p g) = false) ∨
    (0 ≤ b ∧ b < p.bins.length ∧ 0 ≤ g ∧ g < p.sizes.length ∧ (isBin p b && isGood p g) = true) := by
  have h1 := @isBin_iff p b
  have h2 := @isGood_iff p g
  cases hb : isBin p b <;> cases hg : isGood p g <;> simp [hb, hg] at h1 h2 ⊢ <;> omega

set_option maxHeartbeats 400000 in
theorem shThere (w : World) (v : Value) (p : Plan) (b g : Int) (hp : PlanV w w.heap.size v p) :
    Calls Tryz.prog 60 #[v, .int .i64 b, .int .i64 g] w fun e w' => e = .returned (.bool (isBin p b && isGood p g)) ∧ Below w.heap.size w w' := by
  obtain ⟨_, _, rfl, ⟨Ab, cb, rfl, hlb, hb⟩, ⟨As, cs, rfl, hls, hs⟩⟩ := hp
  go_enter Tryz.func60, Tryz.ntmps60
  rcases there_parts p b g with ⟨h1, h⟩ | ⟨h1, h2, h⟩ | ⟨h1, h2, h3, h⟩ | ⟨h1, h2, h3, h4, h⟩ | ⟨h1, h2, h3, h4, h⟩
  all_goals
    go_wp2
    go_ret
    exact ⟨ret_bool (by first | rfl | (simp <;> omega) | (rw [h] <;> first | rfl | (simp <;> omega))), (Below.refl _ _).alloc (Nat.le_refl _) _⟩

set_option maxHeartbeats 400000 in
theorem shelfBad (p : Plan) (row : List Int) (W : World) (B : Nat) (u : Value) (hn : 0 < p.sizes.length) (As : Option Addr) (cs : Nat) (hc : W.cell? ⟨B, 1, none⟩ = some (.slice As p.sizes.length cs)) (hu : Sl cInt W W.heap.size u row) :
    Calls Tryz.prog 127 #[u, .pointer (some ⟨B, 0, none⟩)] W fun e W' => e = .returned (.bool (!rowOk p row)) ∧ Below W.heap.size W W' := by
  have hu' := hu
  obtain ⟨A, c, rfl, hl, hA⟩ := hu
  go_enter Tryz.func127, Tryz.ntmps127
  rcases rowOk_bad row hn with ⟨h1, h⟩ | ⟨h1, h2, h⟩ | ⟨h1, h2, h3, h⟩ | ⟨h1, h2, h3, h⟩
  · go_wp2_with fail
    go_ret
    exact ⟨ret_bool (by rw [h]; rfl), Below.refl _ _⟩
  all_goals
    have hpos : 0 < row.length := by omega
    have hle1 := Nat.le_of_eq h1
    have hle2 := Nat.le_of_eq h1.symm
    clear h1
    go_wp2_with (first | (go_at_call 128; refine (slMin _ _ row hu' hpos).mono ?_; rintro e w' ⟨rfl, rfl⟩) | (go_at_call 129; refine (slMax _ _ row hu' hpos).mono ?_; rintro e w' ⟨rfl, rfl⟩))
    go_ret
    exact ⟨ret_bool (by first | rfl | (simp <;> omega) | (rw [h] <;> first | rfl | (simp <;> omega))), Below.refl _ _⟩
theorem entersShelfBad : Enters Tryz.prog 127 := enters_of Tryz.func127 (by kernel_rfl) rfl
end Wh
namespace Wh
open Go Go.RowKit Go.Shelf Go.Proofs
attribute [local go_sem] run_indexAt_letter

set_option maxHeartbeats 1000000 in
theorem shelfCheck (w : World) (v vo : Value) (p : Plan) (on : List (List Int)) (hp : PlanV w w.heap.size v p) (ho : SlSl cInt w w.heap.size vo on) :
    Calls Tryz.prog 75 #[v, vo] w fun e w' => e = .returned (.int .i64 (checkShelf p on)) ∧ Below w.heap.size w w' := by
  have hP := hp
  have hO := ho
  obtain ⟨_, _, rfl, ⟨Ab, cb, rfl, hlb, hb⟩, ⟨As, cs, rfl, hls, hs⟩⟩ := hp
  obtain ⟨A, c, vs, rfl, hl, hvl, hA, hrows⟩ := ho
  have hb0 : Below w.heap.size w (w.alloc (.cells #[.slice Ab p.bins.length cb, .slice As p.sizes.length cs] 25)) := (Below.refl _ _).alloc (Nat.le_refl _) _
  go_enter Tryz.func75, Tryz.ntmps75
  go_wp2_with fail
  refine (planCheck _ _ p (hP.up hb0 hb0.size)).mono ?_
  rintro e W1 ⟨rfl, hb1⟩
  have hbw := hb0.trans (hb1.mono (by simp))
  have hsz := hb1.size
  obtain ⟨hc1, hf1⟩ := bcell hb1
  by_cases hz : checkPlan p = 0
  · have hz' := checkPlan_zero.1 hz
    have hpos : 0 < p.sizes.length := hz'.2.1.1
    have hcell : W1.cell? ⟨w.heap.size, 1, none⟩ = some (.slice As p.sizes.length cs) := by rw [hc1 _ _ (by simp)]; simp
    by_cases hlen : on.length = p.bins.length
    · have hle1 := Nat.le_of_eq hlen
      have hle2 := Nat.le_of_eq hlen.symm
      have hlen' := Lib.hid hlen
      clear hlen
      go_wp2_with fail
      refine (containsFuncRow _ _ on 127 #[.pointer (some ⟨w.heap.size, 0, none⟩)] (fun r => !rowOk p r) entersShelfBad (hO.up hbw hbw.size) (fun k _ W hW u hu =>
        shelfBad p (rowAt on k) W w.heap.size u hpos As cs ((hW.cell (p := ⟨w.heap.size, 1, none⟩) (by simp at hsz ⊢; omega)).trans hcell) hu)).mono ?_
      rintro e W2 ⟨rfl, hb2⟩
      have hbw2 := hbw.trans (hb2.mono hbw.size)
      cases hbad : (on.any fun r => !rowOk p r)
      · go_wp2_with fail
        go_ret
        exact ⟨ret_int (checkShelf_good hz hlen'.out hbad).symm, hbw2⟩
      · go_wp2_with fail
        go_ret
        exact ⟨ret_int (checkShelf_bad hz hbad).symm, hbw2⟩
    · have hno := checkShelf_len hz hlen
      go_wp2_with fail
      go_ret
      exact ⟨ret_int hno.symm, hbw⟩
  · have hno := checkShelf_plan (on := on) hz
    go_wp2_with fail
    go_ret
    exact ⟨ret_int hno.symm, hbw⟩

set_option maxHeartbeats 1000000 in
theorem rCheckShelf (w : World) (v vo : Value) (p : Plan) (on : List (List Int)) (hp : PlanV w w.heap.size v p) (ho : SlSl cInt w w.heap.size vo on) :
    Calls Tryz.prog 37 #[v, vo] w fun e w' => e = .returned (.int .i64 (checkShelf p on)) ∧ Below w.heap.size w w' := by
  have hP := hp
  have hO := ho
  obtain ⟨_, _, rfl, ⟨Ab, cb, rfl, hlb, hb⟩, ⟨As, cs, rfl, hls, hs⟩⟩ := hp
  obtain ⟨A, c, vs, rfl, hl, hvl, hA, hrows⟩ := ho
  have hb0 : Below w.heap.size w (w.alloc (.cells #[.slice Ab p.bins.length cb, .slice As p.sizes.length cs] 25)) := (Below.refl _ _).alloc (Nat.le_refl _) _
  go_enter Tryz.func37, Tryz.ntmps37
  go_wp2_with fail
  refine (rCheckPlan _ _ p (hP.up hb0 hb0.size)).mono ?_
  rintro e W1 ⟨rfl, hb1⟩
  have hbw := hb0.trans (hb1.mono (by simp))
  have hsz := hb1.size
  obtain ⟨hc1, hf1⟩ := bcell hb1
  by_cases hz : checkPlan p = 0
  · have hz' := checkPlan_zero.1 hz
    have hpos : 0 < p.sizes.length := hz'.2.1.1
    by_cases hlen : on.length = p.bins.length
    · have hle1 := Nat.le_of_eq hlen
      have hle2 := Nat.le_of_eq hlen.symm
      have hlen' := Lib.hid hlen
      have hnb : ((on.length : Int) != (p.bins.length : Int)) = false := by rw [hlen]; simp
      have hcell0 : W1.cell? ⟨w.heap.size, 0, none⟩ = some (.slice Ab p.bins.length cb) := by rw [hc1 _ _ (by simp)]; simp
      have hcell1 : W1.cell? ⟨w.heap.size, 1, none⟩ = some (.slice As p.sizes.length cs) := by rw [hc1 _ _ (by simp)]; simp
      have hsz1 : w.heap.size < W1.heap.size := by simp at hsz; omega
      clear hlen hc1 hf1 hsz hb1 hz'
      have hzz := Lib.hid hz
      go_wp2_with fail
      clear hz
      go_loopw [6] (fun i wr => ∃ k : Nat, k ≤ on.length ∧ i = .int .i64 k ∧ (∀ j, j < k → rowOk p (rowAt on j) = true) ∧ Below w.heap.size w wr ∧ w.heap.size < wr.heap.size ∧ wr.cell? ⟨w.heap.size, 1, none⟩ = some (.slice As p.sizes.length cs)) (fun i _ => on.length - (intOf i).toNat)
      case atStart => exact ⟨0, Nat.zero_le _, rfl, fun j hj => by omega, hbw, hsz1, hcell1⟩
      case round =>
        obtain ⟨k, hk, rfl, hall, hbr, hszr, hcr⟩ := hrel
        by_cases hlt : k < on.length
        · obtain ⟨A', c', hok, hAb, hcu, hsu⟩ := (hO.up hbr hbr.size).row hlt
          have hA2 := hsu.at_
          by_cases hrl : (rowAt on k).length = p.sizes.length
          · have hr1 := Nat.le_of_eq hrl
            have hr2 := Nat.le_of_eq hrl.symm
            have hrl' := Lib.hid hrl
            have hnr : (((rowAt on k).length : Int) != (p.sizes.length : Int)) = false := by rw [hrl]; simp
            clear hrl
            go_wp2_with fail
            go_quiet (fail)
            go_wp2_with fail
            have hA3 := hA2.up (below_drewN (Below.refl _ _) nq) (Nat.le_refl _)
            go_loop [7] (fun i => ∃ j : Nat, j ≤ (rowAt on k).length ∧ i = .int .i64 j ∧ (∀ m, m < j → within (intAt (rowAt on k) m) 0 200 = true)) (fun i => (rowAt on k).length - (intOf i).toNat)
            case atStart => exact ⟨0, Nat.zero_le _, rfl, fun j hj => by omega⟩
            case round =>
              obtain ⟨j, hj, rfl, hall2⟩ := hrel
              by_cases hjt : j < (rowAt on k).length
              · obtain ⟨hok2, hAb2, b2⟩ := hA3.int hjt
                cases g1 : within (intAt (rowAt on k) j) 0 200
                · have hfin := Lib.hid (checkShelf_row hzz.out hlt (rowOk_cell hjt g1))
                  go_wp2_with (go_at_call 38; refine (rWithin _ _ _ _).mono ?_; rintro e w' ⟨rfl, rfl⟩)
                  go_ret
                  exact ⟨ret_int hfin.out.symm, below_drewN hbr _⟩
                · go_wp2_with (go_at_call 38; refine (rWithin _ _ _ _).mono ?_; rintro e w' ⟨rfl, rfl⟩)
                  go_round
                  case rel =>
                    refine ⟨j + 1, by omega, by go_num, fun m hm => ?_⟩
                    rcases Nat.lt_succ_iff_lt_or_eq.1 hm with h | rfl
                    · exact hall2 m h
                    · exact g1
                  case measure => simp [intOf]; omega
              · obtain rfl : j = (rowAt on k).length := by omega
                have hrow := rowOk_all hrl'.out hall2
                go_wp2_with fail
                go_roundw
                case rel =>
                  refine ⟨k + 1, by omega, by go_num, fun m hm => ?_, below_drewN hbr _, hszr, hcr⟩
                  rcases Nat.lt_succ_iff_lt_or_eq.1 hm with h | rfl
                  · exact hall m h
                  · exact hrow
                case measure => simp [intOf]; omega
          · have hno : rowOk p (rowAt on k) = false := by unfold rowOk; simp [hrl]
            have hfin := Lib.hid (checkShelf_row hzz.out hlt hno)
            go_wp2_with fail
            go_quiet (fail)
            go_wp2_with fail
            go_ret
            exact ⟨ret_int hfin.out.symm, below_drewN hbr _⟩
        · obtain rfl : k = on.length := by omega
          have hfin := Lib.hid (checkShelf_all hzz.out hlen'.out hall)
          go_wp2_with fail
          go_ret
          exact ⟨ret_int hfin.out.symm, hbr⟩
    · have hno := checkShelf_len hz hlen
      go_wp2_with fail
      go_ret
      exact ⟨ret_int hno.symm, hbw⟩
  · have hno := checkShelf_plan (on := on) hz
    go_wp2_with fail
    go_ret
    exact ⟨ret_int hno.symm, hbw⟩
end Wh
namespace Wh
open Go Go.RowKit Go.Shelf Go.Proofs
attribute [local go_sem] run_indexAt_letter

theorem shelfError_check {p : Plan} {on : List (List Int)} {b g : Int} (h : checkShelf p on ≠ 0) : shelfError p on b g = checkShelf p on := by
  unfold shelfError
  rw [if_pos h]
theorem shelfError_there {p : Plan} {on : List (List Int)} {b g : Int} (h : checkShelf p on = 0) (h2 : (isBin p b && isGood p g) = false) : shelfError p on b g = 3 := by
  unfold shelfError
  simp [h, h2]
theorem shelfError_ok {p : Plan} {on : List (List Int)} {b g : Int} (h : checkShelf p on = 0) (h2 : (isBin p b && isGood p g) = true) : shelfError p on b g = 0 := by
  unfold shelfError
  simp [h, h2]

set_option maxHeartbeats 1000000 in
theorem shelfAsked (w : World) (v vo : Value) (p : Plan) (on : List (List Int)) (b g : Int) (hp : PlanV w w.heap.size v p) (ho : SlSl cInt w w.heap.size vo on) :
    Calls Tryz.prog 143 #[v, vo, .int .i64 b, .int .i64 g] w fun e w' => e = .returned (.int .i64 (shelfError p on b g)) ∧ Below w.heap.size w w' := by
  have hP := hp
  have hO := ho
  obtain ⟨_, _, rfl, ⟨Ab, cb, rfl, hlb, hb⟩, ⟨As, cs, rfl, hls, hs⟩⟩ := hp
  have hb0 : Below w.heap.size w (w.alloc (.cells #[.slice Ab p.bins.length cb, .slice As p.sizes.length cs] 25)) := (Below.refl _ _).alloc (Nat.le_refl _) _
  go_enter Tryz.func143, Tryz.ntmps143
  go_wp2_with fail
  refine (shelfCheck _ _ vo p on (hP.up hb0 hb0.size) (hO.up hb0 hb0.size)).mono ?_
  rintro e W1 ⟨rfl, hb1⟩
  have hbw := hb0.trans (hb1.mono (by simp))
  have hsz := hb1.size
  obtain ⟨hc1, hf1⟩ := bcell hb1
  by_cases hz : checkShelf p on = 0
  · go_wp2_with fail
    refine (shThere _ _ p b g (hP.up hbw hbw.size)).mono ?_
    rintro e W2 ⟨rfl, hb2⟩
    have hbw2 := hbw.trans (hb2.mono hbw.size)
    cases ht : (isBin p b && isGood p g)
    · have hfin := Lib.hid (shelfError_there hz ht)
      go_wp2_with fail
      go_ret
      exact ⟨ret_int hfin.out.symm, hbw2⟩
    · have hfin := Lib.hid (shelfError_ok hz ht)
      go_wp2_with fail
      go_ret
      exact ⟨ret_int hfin.out.symm, hbw2⟩
  · have hfin := Lib.hid (shelfError_check (b := b) (g := g) hz)
    go_wp2_with fail
    go_ret
    exact ⟨ret_int hfin.out.symm, hbw⟩

end Wh
namespace Wh
open Go Go.RowKit Go.Shelf Go.Proofs
attribute [local go_sem] run_indexAt_letter

set_option maxHeartbeats 1000000 in
theorem rSumOf (w : World) (vo : Value) (p : Plan) (on : List (List Int)) (g : Nat) (ho : SlSl cInt w w.heap.size vo on) (hz : checkShelf p on = 0) (hgn : g < p.sizes.length) :
    Calls Tryz.prog 91 #[vo, .int .i64 g] w fun e w' => e = .returned (.int .i64 (sumOf on g)) ∧ w = w' := by
  have hO := ho
  obtain ⟨A, c, vs, rfl, hl, hvl, hA, hrows⟩ := ho
  have hcnt := right_counts (checkShelf_zero.1 hz).1
  have hlen := right_len hz
  have hle := Nat.le_of_eq hlen
  clear hlen
  go_enter Tryz.func91, Tryz.ntmps91
  go_wp2_with fail
  go_loop [5, 6] (fun n i => ∃ k : Nat, k ≤ on.length ∧ i = .int .i64 k ∧ n = .int .i64 (sumTo (fun b => cell on b g) k)) (fun _ i => on.length - (intOf i).toNat)
  case atStart => exact ⟨0, Nat.zero_le _, rfl, rfl⟩
  case round =>
    obtain ⟨k, hk, rfl, rfl⟩ := hrel
    by_cases hlt : k < on.length
    · obtain ⟨A', c', hok, hAb, hcu, hsu⟩ := hO.row hlt
      have hgr : g < (rowAt on k).length := by rw [right_row hz hlt]; exact hgn
      obtain ⟨hok2, hAb2, b2⟩ := hsu.at_.int hgr
      obtain ⟨u1, u2⟩ := sum_range hz hgn hk
      have hu2 : sumTo (fun b => cell on b g) k ≤ 9000 := by omega
      obtain ⟨q1, q2⟩ := right_cell hz hlt hgn
      unfold cell at q1 q2
      clear u2
      go_wp2_with fail
      go_round
      case rel => exact ⟨k + 1, by omega, by go_num, rfl⟩
      case measure => simp [intOf]; omega
    · obtain rfl : k = on.length := by omega
      go_wp2_with fail
      go_ret
      exact ⟨rfl, rfl⟩
end Wh
namespace Wh
open Go Go.RowKit Go.Shelf Go.Proofs
attribute [local go_sem] run_indexAt_letter

theorem sumE_ok {p : Plan} {on : List (List Int)} {g : Nat} (h : shelfError p on 0 g = 0) : sumE p on g = sumOf on g := by
  unfold sumE; rw [if_pos h, Int.toNat_natCast]
theorem sumE_no {p : Plan} {on : List (List Int)} {g : Int} (h : shelfError p on 0 g ≠ 0) : sumE p on g = 0 := by
  unfold sumE; rw [if_neg h]

set_option maxHeartbeats 1000000 in
theorem shelfSum (w : World) (v vo : Value) (p : Plan) (on : List (List Int)) (g : Int) (hp : PlanV w w.heap.size v p) (ho : SlSl cInt w w.heap.size vo on) :
    Calls Tryz.prog 82 #[v, vo, .int .i64 g] w fun e w' => e = .returned (.tuple #[.int .i64 (sumE p on g), .int .i64 (shelfError p on 0 g)]) ∧ Below w.heap.size w w' := by
  have hP := hp
  have hO := ho
  obtain ⟨_, _, rfl, ⟨Ab, cb, rfl, hlb, hb⟩, ⟨As, cs, rfl, hls, hs⟩⟩ := hp
  obtain ⟨A, c, vs, rfl, hl, hvl, hA, hrows⟩ := ho
  have hb0 : Below w.heap.size w (w.alloc (.cells #[.slice Ab p.bins.length cb, .slice As p.sizes.length cs] 25)) := (Below.refl _ _).alloc (Nat.le_refl _) _
  go_enter Tryz.func82, Tryz.ntmps82
  go_wp2_with fail
  refine (shelfAsked _ _ _ p on 0 g (hP.up hb0 hb0.size) (hO.up hb0 hb0.size)).mono ?_
  rintro e W1 ⟨rfl, hb1⟩
  have hbw := hb0.trans (hb1.mono (by simp))
  have hsz := hb1.size
  obtain ⟨hc1, hf1⟩ := bcell hb1
  by_cases hz : shelfError p on 0 g = 0
  · obtain ⟨hz1, hz2, hz3⟩ := shelfError_zero.1 hz
    have hbb := isGood_iff.1 hz3
    obtain ⟨g', rfl⟩ : ∃ n : Nat, g = n := ⟨g.toNat, by omega⟩
    have hgn : g' < p.sizes.length := by omega
    have hcnt := right_counts (checkShelf_zero.1 hz1).1
    have hlen := right_len hz1
    have hle := Nat.le_of_eq hlen
    clear hlen hbb hz2 hz3
    have hfin := Lib.hid (sumE_ok hz)
    have hz' := Lib.hid hz
    go_wp2_with fail
    clear hz
    go_loop [9, 21, 11] (fun n i _ => ∃ k : Nat, k ≤ on.length ∧ i = .int .i64 k ∧ n = .int .i64 (sumTo (fun b => cell on b g') k)) (fun _ i _ => on.length - (intOf i).toNat)
    case atStart => exact ⟨0, Nat.zero_le _, rfl, rfl⟩
    case round =>
      obtain ⟨k, hk, rfl, rfl⟩ := hrel
      by_cases hlt : k < on.length
      · obtain ⟨A', c', hok, hAb, hcu, hsu⟩ := (hO.up hbw hbw.size).row hlt
        have hgr : g' < (rowAt on k).length := by rw [right_row hz1 hlt]; exact hgn
        obtain ⟨hok2, hAb2, b2⟩ := hsu.at_.int hgr
        obtain ⟨u1, u2⟩ := sum_range hz1 hgn hk
        have hu2 : sumTo (fun b => cell on b g') k ≤ 9000 := by omega
        obtain ⟨q1, q2⟩ := right_cell hz1 hlt hgn
        unfold cell at q1 q2
        clear u2
        go_wp2_with fail
        go_round
        case rel => exact ⟨k + 1, by omega, by go_num, rfl⟩
        case measure => simp [intOf]; omega
      · obtain rfl : k = on.length := by omega
        go_wp2_with fail
        go_ret2
        exact ⟨ret2 (by rw [hfin.out]; rfl) (by rw [hz'.out]; rfl), hbw⟩
  · have hfin := Lib.hid (sumE_no hz)
    have hz' := Lib.hid hz
    go_wp2_with fail
    go_ret2
    exact ⟨ret2 (by rw [hfin.out]; rfl) rfl, hbw⟩
end Wh
