/- Texts of the claim, joined: StateA, WalkD. -/
import Derived.Test.YtnjgkhcnialplaaP13
import Derived.Test.YtnjgkhcnialplaaP09
import Derived.Test.YtnjgkhcnialplaaP05
namespace Wh
open Go Go.RowKit Go.Shelf Go.Proofs
attribute [local go_sem] run_indexAt_letter

theorem held_cases (s : State) (b g : Int) (h : Hold) : ((h.bin == b) = false ∧ heldN s b g h = 0) ∨ ((h.bin == b) = true ∧ ((s.line h.order.toNat h.line.toNat).good == g) = false ∧ heldN s b g h = 0) ∨
    ((h.bin == b) = true ∧ ((s.line h.order.toNat h.line.toNat).good == g) = true ∧ heldN s b g h = h.n) := by
  unfold heldN
  by_cases h1 : h.bin = b <;> by_cases h2 : (s.line h.order.toNat h.line.toNat).good = g <;> simp [h1, h2]
theorem from_cases (b g : Int) (x : Move) : ((x.src == b) = false ∧ fromN b g x = 0) ∨ ((x.src == b) = true ∧ (x.good == g) = false ∧ fromN b g x = 0) ∨ ((x.src == b) = true ∧ (x.good == g) = true ∧ fromN b g x = x.n) := by
  unfold fromN
  by_cases h1 : x.src = b <;> by_cases h2 : x.good = g <;> simp [h1, h2]
theorem to_cases (b g : Int) (x : Move) : ((x.dst == b) = false ∧ toN b g x = 0) ∨ ((x.dst == b) = true ∧ (x.good == g) = false ∧ toN b g x = 0) ∨ ((x.dst == b) = true ∧ (x.good == g) = true ∧ toN b g x = x.n) := by
  unfold toN
  by_cases h1 : x.dst = b <;> by_cases h2 : x.good = g <;> simp [h1, h2]

set_option maxHeartbeats 4000000 in
set_option maxRecDepth 10000 in
theorem rBound (w : World) (v : Value) (p : Plan) (s : State) (b g : Int) (hv : StateV w w.heap.size v s) (hs : Sane p s) :
    Calls Try.prog 65 #[v, .int .i64 b, .int .i64 g] w fun e w' => e = .returned (.int .i64 (bound s b g)) ∧ Below w.heap.size w w' := by
  have hS := hv
  obtain ⟨_, _, _, _, _, _, _, rfl, ⟨A0, c0, vs0, rfl, hl0, hm0, ha0, hr0⟩, ⟨A1, c1, vs1, rfl, hl1, hm1, ha1, hr1⟩, ⟨A2, c2, rfl, hl2, ha2⟩, ⟨A3, c3, rfl, hl3, ha3⟩, ⟨A4, c4, rfl, hl4, ha4⟩, ⟨A5, c5, rfl, hl5, ha5⟩, ⟨A6, c6, rfl, hl6, ha6⟩⟩ := hv
  have hb0 : Below w.heap.size w (w.alloc (.cells #[.slice A0 s.on.length c0, .slice A1 s.orders.length c1, .slice A2 s.holds.length c2, .slice A3 s.moves.length c3, .slice A4 s.inn.length c4, .slice A5 s.out.length c5, .slice A6 s.fixed.length c6] 31)) := (Below.refl _ _).alloc (Nat.le_refl _) _
  have hsz0 : w.heap.size < (w.alloc (.cells #[.slice A0 s.on.length c0, .slice A1 s.orders.length c1, .slice A2 s.holds.length c2, .slice A3 s.moves.length c3, .slice A4 s.inn.length c4, .slice A5 s.out.length c5, .slice A6 s.fixed.length c6] 31)).heap.size := by simp
  have hz0 : (w.alloc (.cells #[.slice A0 s.on.length c0, .slice A1 s.orders.length c1, .slice A2 s.holds.length c2, .slice A3 s.moves.length c3, .slice A4 s.inn.length c4, .slice A5 s.out.length c5, .slice A6 s.fixed.length c6] 31)).cell? ⟨w.heap.size, 1, none⟩ = some (.slice A1 s.orders.length c1) ∧ (w.alloc (.cells #[.slice A0 s.on.length c0, .slice A1 s.orders.length c1, .slice A2 s.holds.length c2, .slice A3 s.moves.length c3, .slice A4 s.inn.length c4, .slice A5 s.out.length c5, .slice A6 s.fixed.length c6] 31)).cell? ⟨w.heap.size, 2, none⟩ = some (.slice A2 s.holds.length c2) ∧ (w.alloc (.cells #[.slice A0 s.on.length c0, .slice A1 s.orders.length c1, .slice A2 s.holds.length c2, .slice A3 s.moves.length c3, .slice A4 s.inn.length c4, .slice A5 s.out.length c5, .slice A6 s.fixed.length c6] 31)).cell? ⟨w.heap.size, 3, none⟩ = some (.slice A3 s.moves.length c3) := by simp
  have ho1 : ∀ W, Below w.heap.size w W → SlOrders W W.heap.size (.slice A1 s.orders.length c1) s.orders := fun W hW => SlOrders.up ⟨A1, c1, vs1, rfl, hl1, hm1, ha1, hr1⟩ hW hW.size
  have ho1' := Lib.hid ho1
  have hs72 := ok_len72 hs.holds
  have hs8 := hs.moves8
  have hs4 := hs.orders4
  have hsH := Lib.hid hs
  clear ho1 hs
  go_enter Try.func65, Try.ntmps65
  go_wp2_with fail
  generalize hW0 : w.alloc (.cells #[.slice A0 s.on.length c0, .slice A1 s.orders.length c1, .slice A2 s.holds.length c2, .slice A3 s.moves.length c3, .slice A4 s.inn.length c4, .slice A5 s.out.length c5, .slice A6 s.fixed.length c6] 31) = W0 at hb0 hsz0 hz0 ⊢
  obtain ⟨z1, z2, z3⟩ := hz0
  clear hW0
  go_loopw [7, 8, 9] (fun n i _ wr => ∃ k : Nat, k ≤ s.holds.length ∧ i = .int .i64 k ∧ n = .int .i64 (heldTo s b g k) ∧ Below W0.heap.size W0 wr) (fun n i _ _ => s.holds.length - (intOf i).toNat)
  case atStart => exact ⟨0, Nat.zero_le _, rfl, rfl, Below.refl _ _⟩
  case round =>
    obtain ⟨k, hk, rfl, rfl, hbw⟩ := hrel
    obtain ⟨r1, r2⟩ := heldTo_range hsH.out b g k
    have y1 := (hbw.cell (p := ⟨w.heap.size, 1, none⟩) hsz0).trans z1
    have y2 := (hbw.cell (p := ⟨w.heap.size, 2, none⟩) hsz0).trans z2
    have y3 := (hbw.cell (p := ⟨w.heap.size, 3, none⟩) hsz0).trans z3
    have hbz : w.heap.size < wr.heap.size := Nat.lt_of_lt_of_le hsz0 hbw.size
    have hB := hb0.trans (hbw.mono hb0.size)
    by_cases hlt : k < s.holds.length
    · obtain ⟨hok, hAb, b0, b1, b2, b3⟩ := (ha2.up hB hB.size).hold hlt
      obtain ⟨⟨i1, i2⟩, ⟨i3, i4⟩, _, i7, i8⟩ := hsH.out.holdAt hlt
      have hol : (hold s.holds k).order.toNat < s.orders.length := by omega
      obtain ⟨A', c', hok1, hAb1, _, d1, hsl⟩ := (ho1'.out wr hB).order hol
      have hll : (hold s.holds k).line.toNat < (orderAt s.orders (hold s.holds k).order.toNat).lines.length := by unfold State.order at i4; omega
      obtain ⟨hok2, hAb2, e0, _, _, _⟩ := hsl.at_.line hll
      have hsucc := heldTo_succ (s := s) (b := b) (g := g) hlt
      have i4' : (hold s.holds k).line < ((orderAt s.orders (hold s.holds k).order.toNat).lines.length : Int) := i4
      have hba : Below W0.heap.size W0 (wr.alloc (.cells #[.int .i64 (hold s.holds k).order, .int .i64 (hold s.holds k).line, .int .i64 (hold s.holds k).bin, .int .i64 (hold s.holds k).n] 87)) := hbw.alloc hbw.size _
      have hca : wr.heap.size < (wr.alloc (.cells #[.int .i64 (hold s.holds k).order, .int .i64 (hold s.holds k).line, .int .i64 (hold s.holds k).bin, .int .i64 (hold s.holds k).n] 87)).heap.size := by simp
      have q0 := fun o d os => cells_wld (w := wr.alloc (.cells #[.int .i64 (hold s.holds k).order, .int .i64 (hold s.holds k).line, .int .i64 (hold s.holds k).bin, .int .i64 (hold s.holds k).n] 87)) (b := w.heap.size) (by simp; omega) o d os
      have q1 := fun o d os => cells_wld (w := wr.alloc (.cells #[.int .i64 (hold s.holds k).order, .int .i64 (hold s.holds k).line, .int .i64 (hold s.holds k).bin, .int .i64 (hold s.holds k).n] 87)) (b := wr.heap.size) hca o d os
      have q2 := fun o d os => cells_wld (w := wr.alloc (.cells #[.int .i64 (hold s.holds k).order, .int .i64 (hold s.holds k).line, .int .i64 (hold s.holds k).bin, .int .i64 (hold s.holds k).n] 87)) (b := ablk A1) (by simp; omega) o d os
      have q3 := fun o d os => cells_wld (w := wr.alloc (.cells #[.int .i64 (hold s.holds k).order, .int .i64 (hold s.holds k).line, .int .i64 (hold s.holds k).bin, .int .i64 (hold s.holds k).n] 87)) (b := ablk A') (by simp; omega) o d os
      have hl : lineAt (orderAt s.orders (hold s.holds k).order.toNat).lines (hold s.holds k).line.toNat = s.line (hold s.holds k).order.toNat (hold s.holds k).line.toNat := rfl
      rw [hl] at e0
      have hll' := Lib.hid hll
      clear i4 hl hll
      rcases held_cases s b g (hold s.holds k) with ⟨g1, gh⟩ | ⟨g1, g2, gh⟩ | ⟨g1, g2, gh⟩
      all_goals
        rw [gh] at hsucc
        have hsu := Lib.hid hsucc
        clear hsucc gh
        go_wp2_with fail
        refine wp_region_wld (by kernel_rfl) (by kernel_rfl) ?_
        repeat (go_big_quiet_step (fail))
        refine wpQuiet_nil ?_
        intro W2 hw'
        have hb2 := below_of_cls hw'
        clear hw'
        obtain ⟨hc2, hf2⟩ := bcell hb2
        clear q0 q1 q2 q3
        go_wp2_with fail
        go_roundw
        case rel => exact ⟨k + 1, by omega, by go_num, by rw [hsu.out] <;> first | rfl | simp, hba.trans (hb2.mono hba.size)⟩
        case measure => simp [intOf]; omega
    · obtain rfl : k = s.holds.length := by omega
      rw [heldTo_all] at r1 r2 ⊢
      go_wp2_with fail
      go_loopw [7, 10] (fun n i wr => ∃ k : Nat, k ≤ s.moves.length ∧ i = .int .i64 k ∧ n = .int .i64 (heldIn s b g + goingTo s.moves b g k) ∧ Below W0.heap.size W0 wr) (fun n i _ => s.moves.length - (intOf i).toNat)
      case atStart => exact ⟨0, Nat.zero_le _, rfl, by unfold goingTo; simp, hbw⟩
      case round =>
        clear hbw y1 y2 y3 hbz hB
        obtain ⟨k, hk, rfl, rfl, hbw⟩ := hrel
        obtain ⟨t1, t2⟩ := goingTo_range hsH.out b g k
        have y3 := (hbw.cell (p := ⟨w.heap.size, 3, none⟩) hsz0).trans z3
        have hbz : w.heap.size < wr.heap.size := Nat.lt_of_lt_of_le hsz0 hbw.size
        have hB := hb0.trans (hbw.mono hb0.size)
        by_cases hlt : k < s.moves.length
        · obtain ⟨hok, hAb, b0, b1, b2, b3⟩ := (ha3.up hB hB.size).move hlt
          obtain ⟨_, _, _, _, i7, i8⟩ := hsH.out.moveAt hlt
          have hsucc := goingTo_succ (b := b) (g := g) hlt
          rcases from_cases b g (moveAt s.moves k) with ⟨g1, gh⟩ | ⟨g1, g2, gh⟩ | ⟨g1, g2, gh⟩
          all_goals
            rw [gh] at hsucc
            have hsu := Lib.hid hsucc
            clear hsucc gh
            go_wp2_with fail
            go_roundw
            case rel => exact ⟨k + 1, by omega, by go_num, by rw [hsu.out] <;> first | rfl | (simp <;> omega), hbw⟩
            case measure => simp [intOf]; omega
        · obtain rfl : k = s.moves.length := by omega
          have hall := goingTo_all s.moves b g
          rw [hall] at t1 t2 ⊢
          clear hall
          go_wp2_with fail
          go_ret
          exact ⟨rfl, hB⟩

set_option maxHeartbeats 4000000 in
set_option maxRecDepth 10000 in
theorem sBound (w : World) (v : Value) (p : Plan) (s : State) (b g : Int) (hv : StateV w w.heap.size v s) (hs : Sane p s) :
    Calls Try.prog 98 #[v, .int .i64 b, .int .i64 g] w fun e w' => e = .returned (.int .i64 (bound s b g)) ∧ Below w.heap.size w w' := by
  have hS := hv
  obtain ⟨_, _, _, _, _, _, _, rfl, ⟨A0, c0, vs0, rfl, hl0, hm0, ha0, hr0⟩, ⟨A1, c1, vs1, rfl, hl1, hm1, ha1, hr1⟩, ⟨A2, c2, rfl, hl2, ha2⟩, ⟨A3, c3, rfl, hl3, ha3⟩, ⟨A4, c4, rfl, hl4, ha4⟩, ⟨A5, c5, rfl, hl5, ha5⟩, ⟨A6, c6, rfl, hl6, ha6⟩⟩ := hv
  have hb0 : Below w.heap.size w (w.alloc (.cells #[.slice A0 s.on.length c0, .slice A1 s.orders.length c1, .slice A2 s.holds.length c2, .slice A3 s.moves.length c3, .slice A4 s.inn.length c4, .slice A5 s.out.length c5, .slice A6 s.fixed.length c6] 31)) := (Below.refl _ _).alloc (Nat.le_refl _) _
  have hsz0 : w.heap.size < (w.alloc (.cells #[.slice A0 s.on.length c0, .slice A1 s.orders.length c1, .slice A2 s.holds.length c2, .slice A3 s.moves.length c3, .slice A4 s.inn.length c4, .slice A5 s.out.length c5, .slice A6 s.fixed.length c6] 31)).heap.size := by simp
  have hz0 : (w.alloc (.cells #[.slice A0 s.on.length c0, .slice A1 s.orders.length c1, .slice A2 s.holds.length c2, .slice A3 s.moves.length c3, .slice A4 s.inn.length c4, .slice A5 s.out.length c5, .slice A6 s.fixed.length c6] 31)).cell? ⟨w.heap.size, 1, none⟩ = some (.slice A1 s.orders.length c1) ∧ (w.alloc (.cells #[.slice A0 s.on.length c0, .slice A1 s.orders.length c1, .slice A2 s.holds.length c2, .slice A3 s.moves.length c3, .slice A4 s.inn.length c4, .slice A5 s.out.length c5, .slice A6 s.fixed.length c6] 31)).cell? ⟨w.heap.size, 2, none⟩ = some (.slice A2 s.holds.length c2) ∧ (w.alloc (.cells #[.slice A0 s.on.length c0, .slice A1 s.orders.length c1, .slice A2 s.holds.length c2, .slice A3 s.moves.length c3, .slice A4 s.inn.length c4, .slice A5 s.out.length c5, .slice A6 s.fixed.length c6] 31)).cell? ⟨w.heap.size, 3, none⟩ = some (.slice A3 s.moves.length c3) := by simp
  have ho1 : ∀ W, Below w.heap.size w W → SlOrders W W.heap.size (.slice A1 s.orders.length c1) s.orders := fun W hW => SlOrders.up ⟨A1, c1, vs1, rfl, hl1, hm1, ha1, hr1⟩ hW hW.size
  have ho1' := Lib.hid ho1
  have hs72 := ok_len72 hs.holds
  have hs8 := hs.moves8
  have hs4 := hs.orders4
  have hsH := Lib.hid hs
  clear ho1 hs
  go_enter Try.func98, Try.ntmps98
  go_wp2_with fail
  generalize hW0 : w.alloc (.cells #[.slice A0 s.on.length c0, .slice A1 s.orders.length c1, .slice A2 s.holds.length c2, .slice A3 s.moves.length c3, .slice A4 s.inn.length c4, .slice A5 s.out.length c5, .slice A6 s.fixed.length c6] 31) = W0 at hb0 hsz0 hz0 ⊢
  obtain ⟨z1, z2, z3⟩ := hz0
  clear hW0
  go_loopw [7, 15, 9] (fun n i _ wr => ∃ k : Nat, k ≤ s.holds.length ∧ i = .int .i64 k ∧ n = .int .i64 (heldTo s b g k) ∧ Below W0.heap.size W0 wr) (fun n i _ _ => s.holds.length - (intOf i).toNat)
  case atStart => exact ⟨0, Nat.zero_le _, rfl, rfl, Below.refl _ _⟩
  case round =>
    obtain ⟨k, hk, rfl, rfl, hbw⟩ := hrel
    obtain ⟨r1, r2⟩ := heldTo_range hsH.out b g k
    have y1 := (hbw.cell (p := ⟨w.heap.size, 1, none⟩) hsz0).trans z1
    have y2 := (hbw.cell (p := ⟨w.heap.size, 2, none⟩) hsz0).trans z2
    have y3 := (hbw.cell (p := ⟨w.heap.size, 3, none⟩) hsz0).trans z3
    have hbz : w.heap.size < wr.heap.size := Nat.lt_of_lt_of_le hsz0 hbw.size
    have hB := hb0.trans (hbw.mono hb0.size)
    by_cases hlt : k < s.holds.length
    · obtain ⟨hok, hAb, b0, b1, b2, b3⟩ := (ha2.up hB hB.size).hold hlt
      obtain ⟨⟨i1, i2⟩, ⟨i3, i4⟩, _, i7, i8⟩ := hsH.out.holdAt hlt
      have hol : (hold s.holds k).order.toNat < s.orders.length := by omega
      obtain ⟨A', c', hok1, hAb1, _, d1, hsl⟩ := (ho1'.out wr hB).order hol
      have hll : (hold s.holds k).line.toNat < (orderAt s.orders (hold s.holds k).order.toNat).lines.length := by unfold State.order at i4; omega
      obtain ⟨hok2, hAb2, e0, _, _, _⟩ := hsl.at_.line hll
      have hsucc := heldTo_succ (s := s) (b := b) (g := g) hlt
      have i4' : (hold s.holds k).line < ((orderAt s.orders (hold s.holds k).order.toNat).lines.length : Int) := i4
      have hba : Below W0.heap.size W0 (wr.alloc (.cells #[.int .i64 (hold s.holds k).order, .int .i64 (hold s.holds k).line, .int .i64 (hold s.holds k).bin, .int .i64 (hold s.holds k).n] 87)) := hbw.alloc hbw.size _
      have hca : wr.heap.size < (wr.alloc (.cells #[.int .i64 (hold s.holds k).order, .int .i64 (hold s.holds k).line, .int .i64 (hold s.holds k).bin, .int .i64 (hold s.holds k).n] 87)).heap.size := by simp
      have q0 := fun o d os => cells_wld (w := wr.alloc (.cells #[.int .i64 (hold s.holds k).order, .int .i64 (hold s.holds k).line, .int .i64 (hold s.holds k).bin, .int .i64 (hold s.holds k).n] 87)) (b := w.heap.size) (by simp; omega) o d os
      have q1 := fun o d os => cells_wld (w := wr.alloc (.cells #[.int .i64 (hold s.holds k).order, .int .i64 (hold s.holds k).line, .int .i64 (hold s.holds k).bin, .int .i64 (hold s.holds k).n] 87)) (b := wr.heap.size) hca o d os
      have q2 := fun o d os => cells_wld (w := wr.alloc (.cells #[.int .i64 (hold s.holds k).order, .int .i64 (hold s.holds k).line, .int .i64 (hold s.holds k).bin, .int .i64 (hold s.holds k).n] 87)) (b := ablk A1) (by simp; omega) o d os
      have q3 := fun o d os => cells_wld (w := wr.alloc (.cells #[.int .i64 (hold s.holds k).order, .int .i64 (hold s.holds k).line, .int .i64 (hold s.holds k).bin, .int .i64 (hold s.holds k).n] 87)) (b := ablk A') (by simp; omega) o d os
      have hl : lineAt (orderAt s.orders (hold s.holds k).order.toNat).lines (hold s.holds k).line.toNat = s.line (hold s.holds k).order.toNat (hold s.holds k).line.toNat := rfl
      rw [hl] at e0
      have hll' := Lib.hid hll
      clear i4 hl hll
      rcases held_cases s b g (hold s.holds k) with ⟨g1, gh⟩ | ⟨g1, g2, gh⟩ | ⟨g1, g2, gh⟩
      all_goals
        rw [gh] at hsucc
        have hsu := Lib.hid hsucc
        clear hsucc gh
        go_wp2_with fail
        refine wp_region_wld (by kernel_rfl) (by kernel_rfl) ?_
        repeat (go_big_quiet_step (fail))
        refine wpQuiet_nil ?_
        intro W2 hw'
        have hb2 := below_of_cls hw'
        clear hw'
        obtain ⟨hc2, hf2⟩ := bcell hb2
        clear q0 q1 q2 q3
        go_wp2_with fail
        go_roundw
        case rel => exact ⟨k + 1, by omega, by go_num, by rw [hsu.out] <;> first | rfl | simp, hba.trans (hb2.mono hba.size)⟩
        case measure => simp [intOf]; omega
    · obtain rfl : k = s.holds.length := by omega
      rw [heldTo_all] at r1 r2 ⊢
      go_wp2_with fail
      go_loopw [7, 47, 11] (fun n i _ wr => ∃ k : Nat, k ≤ s.moves.length ∧ i = .int .i64 k ∧ n = .int .i64 (heldIn s b g + goingTo s.moves b g k) ∧ Below W0.heap.size W0 wr) (fun n i _ _ => s.moves.length - (intOf i).toNat)
      case atStart => exact ⟨0, Nat.zero_le _, rfl, by unfold goingTo; simp, hbw⟩
      case round =>
        clear hbw y1 y2 y3 hbz hB
        obtain ⟨k, hk, rfl, rfl, hbw⟩ := hrel
        obtain ⟨t1, t2⟩ := goingTo_range hsH.out b g k
        have y3 := (hbw.cell (p := ⟨w.heap.size, 3, none⟩) hsz0).trans z3
        have hbz : w.heap.size < wr.heap.size := Nat.lt_of_lt_of_le hsz0 hbw.size
        have hB := hb0.trans (hbw.mono hb0.size)
        by_cases hlt : k < s.moves.length
        · obtain ⟨hok, hAb, b0, b1, b2, b3⟩ := (ha3.up hB hB.size).move hlt
          obtain ⟨_, _, _, _, i7, i8⟩ := hsH.out.moveAt hlt
          have hsucc := goingTo_succ (b := b) (g := g) hlt
          rcases from_cases b g (moveAt s.moves k) with ⟨g1, gh⟩ | ⟨g1, g2, gh⟩ | ⟨g1, g2, gh⟩
          all_goals
            rw [gh] at hsucc
            have hsu := Lib.hid hsucc
            clear hsucc gh
            go_wp2_with fail
            go_roundw
            case rel => exact ⟨k + 1, by omega, by go_num, by rw [hsu.out] <;> first | rfl | (simp <;> omega), hbw.alloc hbw.size (.cells #[.int .i64 (moveAt s.moves k).good, .int .i64 (moveAt s.moves k).src, .int .i64 (moveAt s.moves k).dst, .int .i64 (moveAt s.moves k).n] 92)⟩
            case measure => simp [intOf]; omega
        · obtain rfl : k = s.moves.length := by omega
          have hall := goingTo_all s.moves b g
          rw [hall] at t1 t2 ⊢
          clear hall
          go_wp2_with fail
          go_ret
          exact ⟨rfl, hB⟩

set_option maxHeartbeats 4000000 in
set_option maxRecDepth 10000 in
theorem rComing (w : World) (v : Value) (p : Plan) (s : State) (b g : Int) (hv : StateV w w.heap.size v s) (hs : Sane p s) :
    Calls Try.prog 67 #[v, .int .i64 b, .int .i64 g] w fun e w' => e = .returned (.int .i64 (coming s b g)) ∧ Below w.heap.size w w' := by
  have hS := hv
  obtain ⟨_, _, _, _, _, _, _, rfl, ⟨A0, c0, vs0, rfl, hl0, hm0, ha0, hr0⟩, ⟨A1, c1, vs1, rfl, hl1, hm1, ha1, hr1⟩, ⟨A2, c2, rfl, hl2, ha2⟩, ⟨A3, c3, rfl, hl3, ha3⟩, ⟨A4, c4, rfl, hl4, ha4⟩, ⟨A5, c5, rfl, hl5, ha5⟩, ⟨A6, c6, rfl, hl6, ha6⟩⟩ := hv
  have hb0 : Below w.heap.size w (w.alloc (.cells #[.slice A0 s.on.length c0, .slice A1 s.orders.length c1, .slice A2 s.holds.length c2, .slice A3 s.moves.length c3, .slice A4 s.inn.length c4, .slice A5 s.out.length c5, .slice A6 s.fixed.length c6] 31)) := (Below.refl _ _).alloc (Nat.le_refl _) _
  have hsz0 : w.heap.size < (w.alloc (.cells #[.slice A0 s.on.length c0, .slice A1 s.orders.length c1, .slice A2 s.holds.length c2, .slice A3 s.moves.length c3, .slice A4 s.inn.length c4, .slice A5 s.out.length c5, .slice A6 s.fixed.length c6] 31)).heap.size := by simp
  have hz0 : (w.alloc (.cells #[.slice A0 s.on.length c0, .slice A1 s.orders.length c1, .slice A2 s.holds.length c2, .slice A3 s.moves.length c3, .slice A4 s.inn.length c4, .slice A5 s.out.length c5, .slice A6 s.fixed.length c6] 31)).cell? ⟨w.heap.size, 1, none⟩ = some (.slice A1 s.orders.length c1) ∧ (w.alloc (.cells #[.slice A0 s.on.length c0, .slice A1 s.orders.length c1, .slice A2 s.holds.length c2, .slice A3 s.moves.length c3, .slice A4 s.inn.length c4, .slice A5 s.out.length c5, .slice A6 s.fixed.length c6] 31)).cell? ⟨w.heap.size, 2, none⟩ = some (.slice A2 s.holds.length c2) ∧ (w.alloc (.cells #[.slice A0 s.on.length c0, .slice A1 s.orders.length c1, .slice A2 s.holds.length c2, .slice A3 s.moves.length c3, .slice A4 s.inn.length c4, .slice A5 s.out.length c5, .slice A6 s.fixed.length c6] 31)).cell? ⟨w.heap.size, 3, none⟩ = some (.slice A3 s.moves.length c3) := by simp
  have ho1 : ∀ W, Below w.heap.size w W → SlOrders W W.heap.size (.slice A1 s.orders.length c1) s.orders := fun W hW => SlOrders.up ⟨A1, c1, vs1, rfl, hl1, hm1, ha1, hr1⟩ hW hW.size
  have ho1' := Lib.hid ho1
  have hs72 := ok_len72 hs.holds
  have hs8 := hs.moves8
  have hs4 := hs.orders4
  have hsH := Lib.hid hs
  clear ho1 hs
  go_enter Try.func67, Try.ntmps67
  go_wp2_with fail
  generalize hW0 : w.alloc (.cells #[.slice A0 s.on.length c0, .slice A1 s.orders.length c1, .slice A2 s.holds.length c2, .slice A3 s.moves.length c3, .slice A4 s.inn.length c4, .slice A5 s.out.length c5, .slice A6 s.fixed.length c6] 31) = W0 at hb0 hsz0 hz0 ⊢
  obtain ⟨z1, z2, z3⟩ := hz0
  clear hW0
  go_loopw [7, 8] (fun n i wr => ∃ k : Nat, k ≤ s.moves.length ∧ i = .int .i64 k ∧ n = .int .i64 (comingTo s.moves b g k) ∧ Below W0.heap.size W0 wr) (fun n i _ => s.moves.length - (intOf i).toNat)
  case atStart => exact ⟨0, Nat.zero_le _, rfl, rfl, Below.refl _ _⟩
  case round =>
    skip
    obtain ⟨k, hk, rfl, rfl, hbw⟩ := hrel
    obtain ⟨t1, t2⟩ := comingTo_range hsH.out b g k
    have y3 := (hbw.cell (p := ⟨w.heap.size, 3, none⟩) hsz0).trans z3
    have hbz : w.heap.size < wr.heap.size := Nat.lt_of_lt_of_le hsz0 hbw.size
    have hB := hb0.trans (hbw.mono hb0.size)
    by_cases hlt : k < s.moves.length
    · obtain ⟨hok, hAb, b0, b1, b2, b3⟩ := (ha3.up hB hB.size).move hlt
      obtain ⟨_, _, _, _, i7, i8⟩ := hsH.out.moveAt hlt
      have hsucc := comingTo_succ (b := b) (g := g) hlt
      rcases to_cases b g (moveAt s.moves k) with ⟨g1, gh⟩ | ⟨g1, g2, gh⟩ | ⟨g1, g2, gh⟩
      all_goals
        rw [gh] at hsucc
        have hsu := Lib.hid hsucc
        clear hsucc gh
        go_wp2_with fail
        go_roundw
        case rel => exact ⟨k + 1, by omega, by go_num, by rw [hsu.out] <;> first | rfl | (simp <;> omega), hbw⟩
        case measure => simp [intOf]; omega
    · obtain rfl : k = s.moves.length := by omega
      have hall := comingTo_all s.moves b g
      rw [hall] at t1 t2 ⊢
      clear hall
      go_wp2_with fail
      go_ret
      exact ⟨rfl, hB⟩

set_option maxHeartbeats 4000000 in
set_option maxRecDepth 10000 in
theorem sComing (w : World) (v : Value) (p : Plan) (s : State) (b g : Int) (hv : StateV w w.heap.size v s) (hs : Sane p s) :
    Calls Try.prog 69 #[v, .int .i64 b, .int .i64 g] w fun e w' => e = .returned (.int .i64 (coming s b g)) ∧ Below w.heap.size w w' := by
  have hS := hv
  obtain ⟨_, _, _, _, _, _, _, rfl, ⟨A0, c0, vs0, rfl, hl0, hm0, ha0, hr0⟩, ⟨A1, c1, vs1, rfl, hl1, hm1, ha1, hr1⟩, ⟨A2, c2, rfl, hl2, ha2⟩, ⟨A3, c3, rfl, hl3, ha3⟩, ⟨A4, c4, rfl, hl4, ha4⟩, ⟨A5, c5, rfl, hl5, ha5⟩, ⟨A6, c6, rfl, hl6, ha6⟩⟩ := hv
  have hb0 : Below w.heap.size w (w.alloc (.cells #[.slice A0 s.on.length c0, .slice A1 s.orders.length c1, .slice A2 s.holds.length c2, .slice A3 s.moves.length c3, .slice A4 s.inn.length c4, .slice A5 s.out.length c5, .slice A6 s.fixed.length c6] 31)) := (Below.refl _ _).alloc (Nat.le_refl _) _
  have hsz0 : w.heap.size < (w.alloc (.cells #[.slice A0 s.on.length c0, .slice A1 s.orders.length c1, .slice A2 s.holds.length c2, .slice A3 s.moves.length c3, .slice A4 s.inn.length c4, .slice A5 s.out.length c5, .slice A6 s.fixed.length c6] 31)).heap.size := by simp
  have hz0 : (w.alloc (.cells #[.slice A0 s.on.length c0, .slice A1 s.orders.length c1, .slice A2 s.holds.length c2, .slice A3 s.moves.length c3, .slice A4 s.inn.length c4, .slice A5 s.out.length c5, .slice A6 s.fixed.length c6] 31)).cell? ⟨w.heap.size, 1, none⟩ = some (.slice A1 s.orders.length c1) ∧ (w.alloc (.cells #[.slice A0 s.on.length c0, .slice A1 s.orders.length c1, .slice A2 s.holds.length c2, .slice A3 s.moves.length c3, .slice A4 s.inn.length c4, .slice A5 s.out.length c5, .slice A6 s.fixed.length c6] 31)).cell? ⟨w.heap.size, 2, none⟩ = some (.slice A2 s.holds.length c2) ∧ (w.alloc (.cells #[.slice A0 s.on.length c0, .slice A1 s.orders.length c1, .slice A2 s.holds.length c2, .slice A3 s.moves.length c3, .slice A4 s.inn.length c4, .slice A5 s.out.length c5, .slice A6 s.fixed.length c6] 31)).cell? ⟨w.heap.size, 3, none⟩ = some (.slice A3 s.moves.length c3) := by simp
  have ho1 : ∀ W, Below w.heap.size w W → SlOrders W W.heap.size (.slice A1 s.orders.length c1) s.orders := fun W hW => SlOrders.up ⟨A1, c1, vs1, rfl, hl1, hm1, ha1, hr1⟩ hW hW.size
  have ho1' := Lib.hid ho1
  have hs72 := ok_len72 hs.holds
  have hs8 := hs.moves8
  have hs4 := hs.orders4
  have hsH := Lib.hid hs
  clear ho1 hs
  go_enter Try.func69, Try.ntmps69
  go_wp2_with fail
  generalize hW0 : w.alloc (.cells #[.slice A0 s.on.length c0, .slice A1 s.orders.length c1, .slice A2 s.holds.length c2, .slice A3 s.moves.length c3, .slice A4 s.inn.length c4, .slice A5 s.out.length c5, .slice A6 s.fixed.length c6] 31) = W0 at hb0 hsz0 hz0 ⊢
  obtain ⟨z1, z2, z3⟩ := hz0
  clear hW0
  go_loopw [7, 13, 9] (fun n i _ wr => ∃ k : Nat, k ≤ s.moves.length ∧ i = .int .i64 k ∧ n = .int .i64 (comingTo s.moves b g k) ∧ Below W0.heap.size W0 wr) (fun n i _ _ => s.moves.length - (intOf i).toNat)
  case atStart => exact ⟨0, Nat.zero_le _, rfl, rfl, Below.refl _ _⟩
  case round =>
    skip
    obtain ⟨k, hk, rfl, rfl, hbw⟩ := hrel
    obtain ⟨t1, t2⟩ := comingTo_range hsH.out b g k
    have y3 := (hbw.cell (p := ⟨w.heap.size, 3, none⟩) hsz0).trans z3
    have hbz : w.heap.size < wr.heap.size := Nat.lt_of_lt_of_le hsz0 hbw.size
    have hB := hb0.trans (hbw.mono hb0.size)
    by_cases hlt : k < s.moves.length
    · obtain ⟨hok, hAb, b0, b1, b2, b3⟩ := (ha3.up hB hB.size).move hlt
      obtain ⟨_, _, _, _, i7, i8⟩ := hsH.out.moveAt hlt
      have hsucc := comingTo_succ (b := b) (g := g) hlt
      rcases to_cases b g (moveAt s.moves k) with ⟨g1, gh⟩ | ⟨g1, g2, gh⟩ | ⟨g1, g2, gh⟩
      all_goals
        rw [gh] at hsucc
        have hsu := Lib.hid hsucc
        clear hsucc gh
        go_wp2_with fail
        go_roundw
        case rel => exact ⟨k + 1, by omega, by go_num, by rw [hsu.out] <;> first | rfl | (simp <;> omega), hbw.alloc hbw.size (.cells #[.int .i64 (moveAt s.moves k).good, .int .i64 (moveAt s.moves k).src, .int .i64 (moveAt s.moves k).dst, .int .i64 (moveAt s.moves k).n] 92)⟩
        case measure => simp [intOf]; omega
    · obtain rfl : k = s.moves.length := by omega
      have hall := comingTo_all s.moves b g
      rw [hall] at t1 t2 ⊢
      clear hall
      go_wp2_with fail
      go_ret
      exact ⟨rfl, hB⟩

end Wh
namespace Wh
open Go Go.RowKit Go.Shelf Go.Proofs
attribute [local go_sem] run_indexAt_letter

set_option maxHeartbeats 400000 in
theorem pWithin (n lo hi : Int) (w : World) :
    Calls Try.prog 81 #[.int .i64 n, .int .i64 lo, .int .i64 hi] w fun e w' => e = .returned (.bool (within n lo hi)) ∧ w = w' := by
  go_enter Try.func81, Try.ntmps81
  by_cases h1 : lo ≤ n
  · by_cases h2 : n ≤ hi
    · go_wp2
      go_ret
      exact ⟨by simp [within, h1, h2], rfl⟩
    · go_wp2
      go_ret
      exact ⟨by simp [within]; omega, rfl⟩
  · go_wp2
    go_ret
    exact ⟨by simp [within]; omega, rfl⟩

set_option maxHeartbeats 400000 in
theorem planBad (b : Bin) (W : World) :
    Calls Try.prog 83 #[vBin b] W fun e W' => e = .returned (.bool (!binOk b)) ∧ Below W.heap.size W W' := by
  unfold vBin
  go_enter Try.func83, Try.ntmps83
  rcases binOk_bad b with ⟨h1, h⟩ | ⟨h1, h2, h⟩ | ⟨h1, h2, h3, h⟩ | ⟨h1, h2, h3, h⟩
  · go_wp2_with (go_at_call 81; refine (pWithin _ _ _ _).mono ?_; rintro e w' ⟨rfl, rfl⟩)
    go_ret
    exact ⟨ret_bool (by rw [h]; rfl), (Below.refl _ _).alloc (Nat.le_refl _) _⟩
  · go_wp2_with (go_at_call 81; refine (pWithin _ _ _ _).mono ?_; rintro e w' ⟨rfl, rfl⟩)
    go_ret
    exact ⟨ret_bool (by rw [h]; rfl), (Below.refl _ _).alloc (Nat.le_refl _) _⟩
  · go_wp2_with (go_at_call 81; refine (pWithin _ _ _ _).mono ?_; rintro e w' ⟨rfl, rfl⟩)
    go_ret
    exact ⟨ret_bool (by rw [h]; rfl), (Below.refl _ _).alloc (Nat.le_refl _) _⟩
  · go_wp2_with (go_at_call 81; refine (pWithin _ _ _ _).mono ?_; rintro e w' ⟨rfl, rfl⟩)
    go_ret
    exact ⟨ret_bool (by rw [h]; simp; omega), (Below.refl _ _).alloc (Nat.le_refl _) _⟩

theorem entersBad : Enters Try.prog 83 := enters_of Try.func83 (by kernel_rfl) rfl

set_option maxHeartbeats 1000000 in
theorem planCheck (w : World) (v : Value) (p : Plan) (hp : PlanV w w.heap.size v p) :
    Calls Try.prog 52 #[v] w fun e w' => e = .returned (.int .i64 (checkPlan p)) ∧ Below w.heap.size w w' := by
  obtain ⟨_, _, rfl, ⟨Ab, cb, rfl, hlb, hb⟩, ⟨As, cs, rfl, hls, hs⟩⟩ := hp
  have hb0 : Below w.heap.size w (w.alloc (.cells #[.slice Ab p.bins.length cb, .slice As p.sizes.length cs] 25)) := (Below.refl _ _).alloc (Nat.le_refl _) _
  go_enter Try.func52, Try.ntmps52
  cases h1 : within p.bins.length 1 6
  · go_wp2_with (go_at_call 81; refine (pWithin _ _ _ _).mono ?_; rintro e w' ⟨rfl, rfl⟩)
    go_ret
    exact ⟨ret_int (checkPlan_two (.inl h1)).symm, hb0⟩
  cases h2 : within p.sizes.length 1 3
  · go_wp2_with (go_at_call 81; refine (pWithin _ _ _ _).mono ?_; rintro e w' ⟨rfl, rfl⟩)
    go_ret
    exact ⟨ret_int (checkPlan_two (.inr h2)).symm, hb0⟩
  have hpos : 0 < p.sizes.length := by have := within_iff.1 h2; omega
  have hsb : ∀ W, Below w.heap.size w W → Sl cBin W W.heap.size (.slice Ab p.bins.length cb) p.bins := fun W hW => Sl.up ⟨Ab, cb, rfl, hlb, hb⟩ hW hW.size
  have hss : ∀ W, Below w.heap.size w W → Sl cInt W W.heap.size (.slice As p.sizes.length cs) p.sizes := fun W hW => Sl.up ⟨As, cs, rfl, hls, hs⟩ hW hW.size
  go_wp2_with (go_at_call 81; refine (pWithin _ _ _ _).mono ?_; rintro e w' ⟨rfl, rfl⟩)
  refine (containsFuncBin _ _ p.bins 83 #[] (fun b => !binOk b) entersBad (hsb _ hb0) (fun k _ W _ => planBad _ W)).mono ?_
  rintro e W1 ⟨rfl, hb1⟩
  have hbw := hb0.trans (hb1.mono (by simp))
  have hsz := hb1.size
  obtain ⟨hc1, hf1⟩ := bcell hb1
  cases hbad : (p.bins.any fun b => !binOk b)
  · go_wp2_with fail
    refine (slMin _ _ p.sizes (hss _ hbw) hpos).mono ?_
    rintro e w' ⟨rfl, rfl⟩
    by_cases hlo : lowest p.sizes < 1
    · go_wp2_with fail
      go_ret
      exact ⟨ret_int (checkPlan_lowest h1 h2 hlo).symm, hbw⟩
    · go_wp2_with fail
      refine (slMax _ _ p.sizes (hss _ hbw) hpos).mono ?_
      rintro e w' ⟨rfl, rfl⟩
      by_cases hgr : 9 < greatest p.sizes
      · go_wp2_with fail
        go_ret
        exact ⟨ret_int (checkPlan_greatest h1 h2 hgr).symm, hbw⟩
      · go_wp2_with fail
        go_ret
        exact ⟨ret_int (checkPlan_good h1 h2 hbad (by omega) (by omega)).symm, hbw⟩
  · go_wp2_with fail
    go_ret
    exact ⟨ret_int (checkPlan_bad h1 h2 hbad).symm, hbw⟩
end Wh
