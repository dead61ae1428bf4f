/- Texts of the claim, joined: StateE. -/
import Derived.Test.YtfhfkijmebhgmaaGreatQ14
import Derived.Test.YtfhfkijmebhgmaaGreatQ13
namespace Wh
open Go Go.RowKit Go.Shelf Go.Proofs
attribute [local go_sem] run_indexAt_letter

theorem formed_no {p : Plan} {s : State} (h : formed p s = true → False) : formed p s = false := by
  cases hh : formed p s
  · rfl
  · exact (h hh).elim
theorem lineR_parts (p : Plan) (x : Line) : (isGood p x.good = false ∧ lineOk p x = false) ∨ (isGood p x.good = true ∧ within x.want 1 200 = false ∧ lineOk p x = false) ∨ (isGood p x.good = true ∧ within x.want 1 200 = true ∧ within x.got 0 x.want = false ∧ lineOk p x = false) ∨
    (isGood p x.good = true ∧ within x.want 1 200 = true ∧ within x.got 0 x.want = true ∧ within x.back 0 x.want = false ∧ lineOk p x = false) ∨ (isGood p x.good = true ∧ within x.want 1 200 = true ∧ within x.got 0 x.want = true ∧ within x.back 0 x.want = true ∧ lineOk p x = true) := by
  unfold lineOk
  cases isGood p x.good <;> cases within x.want 1 200 <;> cases within x.got 0 x.want <;> cases within x.back 0 x.want <;> simp
theorem moveR_parts (p : Plan) (x : Move) : (isGood p x.good = false ∧ moveOk p x = false) ∨ (isGood p x.good = true ∧ isBin p x.src = false ∧ moveOk p x = false) ∨ (isGood p x.good = true ∧ isBin p x.src = true ∧ isBin p x.dst = false ∧ moveOk p x = false) ∨
    (isGood p x.good = true ∧ isBin p x.src = true ∧ isBin p x.dst = true ∧ (x.src == x.dst) = true ∧ moveOk p x = false) ∨ (isGood p x.good = true ∧ isBin p x.src = true ∧ isBin p x.dst = true ∧ (x.src == x.dst) = false ∧ within x.n 1 200 = false ∧ moveOk p x = false) ∨
    (isGood p x.good = true ∧ isBin p x.src = true ∧ isBin p x.dst = true ∧ (x.src == x.dst) = false ∧ within x.n 1 200 = true ∧ moveOk p x = true) := by
  unfold moveOk
  cases isGood p x.good <;> cases isBin p x.src <;> cases isBin p x.dst <;> cases within x.n 1 200 <;> by_cases h : x.src = x.dst <;> simp [h]
theorem isBin_lt (p : Plan) {b : Int} (h0 : 0 ≤ b) : isBin p b = decide (b < (p.bins.length : Int)) := by
  rw [Bool.eq_iff_iff, isBin_iff, decide_eq_true_eq]
  omega
theorem sumsR_parts (p : Plan) (s : State) : s.inn.length ≠ p.sizes.length ∧ formed p s = false ∨ s.inn.length = p.sizes.length ∧ s.out.length ≠ p.sizes.length ∧ formed p s = false ∨ s.inn.length = p.sizes.length ∧ s.out.length = p.sizes.length ∧ s.fixed.length ≠ p.sizes.length ∧ formed p s = false ∨
    s.inn.length = p.sizes.length ∧ s.out.length = p.sizes.length ∧ s.fixed.length = p.sizes.length := by
  have h : formed p s = true → s.inn.length = p.sizes.length ∧ s.out.length = p.sizes.length ∧ s.fixed.length = p.sizes.length := fun h => by
    have h := formed_iff.1 h
    exact ⟨(sumsOk_iff.1 h.2.2.2.2.1).1, (sumsOk_iff.1 h.2.2.2.2.2.1).1, (sumsOk_iff.1 h.2.2.2.2.2.2).1⟩
  cases hf : formed p s
  · simp only [and_true]; omega
  · have := h hf; omega
def goodR (s : State) (g : Nat) : Bool := within (intAt s.inn g) 0 1048576 && within (intAt s.out g) 0 1048576 && within (intAt s.fixed g) (-1048576) 1048576
theorem goodR_parts (s : State) (g : Nat) : (within (intAt s.inn g) 0 1048576 = false ∧ goodR s g = false) ∨ (within (intAt s.inn g) 0 1048576 = true ∧ within (intAt s.out g) 0 1048576 = false ∧ goodR s g = false) ∨ (within (intAt s.inn g) 0 1048576 = true ∧ within (intAt s.out g) 0 1048576 = true ∧ within (intAt s.fixed g) (-1048576) 1048576 = false ∧ goodR s g = false) ∨
    (within (intAt s.inn g) 0 1048576 = true ∧ within (intAt s.out g) 0 1048576 = true ∧ within (intAt s.fixed g) (-1048576) 1048576 = true ∧ goodR s g = true) := by
  unfold goodR
  cases within (intAt s.inn g) 0 1048576 <;> cases within (intAt s.out g) 0 1048576 <;> cases within (intAt s.fixed g) (-1048576) 1048576 <;> simp
theorem formed_goodR {p : Plan} {s : State} (h : formed p s = true) {g : Nat} (hg : g < p.sizes.length) : goodR s g = true := by
  have h := formed_iff.1 h
  obtain ⟨i1, i2⟩ := sumsOk_iff.1 h.2.2.2.2.1
  obtain ⟨o1, o2⟩ := sumsOk_iff.1 h.2.2.2.2.2.1
  obtain ⟨f1, f2⟩ := sumsOk_iff.1 h.2.2.2.2.2.2
  unfold goodR
  rw [Bool.and_eq_true, Bool.and_eq_true]
  exact ⟨⟨all_at 0 i2 (by omega), all_at 0 o2 (by omega)⟩, all_at 0 f2 (by omega)⟩
theorem formed_of {p : Plan} {s : State} (h1 : s.orders.all (orderOk p) = true) (h2 : holdsOk s.holds = true) (h3 : s.holds.all (holdIn p s) = true) (h4 : s.moves.all (moveOk p) = true) (h5 : s.inn.length = p.sizes.length ∧ s.out.length = p.sizes.length ∧ s.fixed.length = p.sizes.length)
    (h6 : ∀ g, g < p.sizes.length → goodR s g = true) : formed p s = true := by
  have h : ∀ g, g < p.sizes.length → within (intAt s.inn g) 0 1048576 = true ∧ within (intAt s.out g) 0 1048576 = true ∧ within (intAt s.fixed g) (-1048576) 1048576 = true := fun g hg => by
    have := h6 g hg
    unfold goodR at this
    rw [Bool.and_eq_true, Bool.and_eq_true] at this
    exact ⟨this.1.1, this.1.2, this.2⟩
  exact formed_iff.2 ⟨h1, h2, h3, h4, sumsOk_iff.2 ⟨h5.1, all_of 0 fun g hg => (h g (by omega)).1⟩, sumsOk_iff.2 ⟨h5.2.1, all_of 0 fun g hg => (h g (by omega)).2.1⟩, sumsOk_iff.2 ⟨h5.2.2, all_of 0 fun g hg => (h g (by omega)).2.2⟩⟩

set_option maxHeartbeats 8000000 in
set_option maxRecDepth 100000 in
theorem rFormed (w : World) (v vs : Value) (p : Plan) (s : State) (hp : PlanV w w.heap.size v p) (hv : StateV w w.heap.size vs s) (hz : checkPlan p = 0) (h4 : s.orders.length ≤ 4) (h8 : s.moves.length ≤ 8) (hll3 : ∀ o, o < s.orders.length → (orderAt s.orders o).lines.length ≤ 1000) :
    Calls Tryz.prog 39 #[v, vs] w fun e w' => e = .returned (.bool (formed p s)) ∧ Below w.heap.size w w' := by
  have hP := hp
  obtain ⟨_, _, rfl, ⟨Ab, cb, rfl, hlb, hb⟩, ⟨As, cs, rfl, hls, hs⟩⟩ := hp
  have hS := hv
  obtain ⟨_, _, _, _, _, _, _, rfl, ⟨A0, c0, vs0, rfl, hl0, hm0, ha0, hr0⟩, ⟨A1, c1, vs1, rfl, hl1, hm1, ha1, hr1⟩, ⟨A2, c2, rfl, hl2, ha2⟩, ⟨A3, c3, rfl, hl3, ha3⟩, ⟨A4, c4, rfl, hl4, ha4⟩, ⟨A5, c5, rfl, hl5, ha5⟩, ⟨A6, c6, rfl, hl6, ha6⟩⟩ := hv
  have hcnt := right_counts hz
  have hb0 : Below w.heap.size w ((w.alloc (.cells #[.slice Ab p.bins.length cb, .slice As p.sizes.length cs] 25)).alloc (.cells #[.slice A0 s.on.length c0, .slice A1 s.orders.length c1, .slice A2 s.holds.length c2, .slice A3 s.moves.length c3, .slice A4 s.inn.length c4, .slice A5 s.out.length c5, .slice A6 s.fixed.length c6] 31)) := ((Below.refl _ _).alloc (Nat.le_refl _) _).alloc (by simp) _
  have hsz0 : w.heap.size + 1 < ((w.alloc (.cells #[.slice Ab p.bins.length cb, .slice As p.sizes.length cs] 25)).alloc (.cells #[.slice A0 s.on.length c0, .slice A1 s.orders.length c1, .slice A2 s.holds.length c2, .slice A3 s.moves.length c3, .slice A4 s.inn.length c4, .slice A5 s.out.length c5, .slice A6 s.fixed.length c6] 31)).heap.size := by simp
  have hz0 : (((w.alloc (.cells #[.slice Ab p.bins.length cb, .slice As p.sizes.length cs] 25)).alloc (.cells #[.slice A0 s.on.length c0, .slice A1 s.orders.length c1, .slice A2 s.holds.length c2, .slice A3 s.moves.length c3, .slice A4 s.inn.length c4, .slice A5 s.out.length c5, .slice A6 s.fixed.length c6] 31)).cell? ⟨w.heap.size, 0, none⟩ = some (.slice Ab p.bins.length cb) ∧ ((w.alloc (.cells #[.slice Ab p.bins.length cb, .slice As p.sizes.length cs] 25)).alloc (.cells #[.slice A0 s.on.length c0, .slice A1 s.orders.length c1, .slice A2 s.holds.length c2, .slice A3 s.moves.length c3, .slice A4 s.inn.length c4, .slice A5 s.out.length c5, .slice A6 s.fixed.length c6] 31)).cell? ⟨w.heap.size, 1, none⟩ = some (.slice As p.sizes.length cs)) ∧
      ((w.alloc (.cells #[.slice Ab p.bins.length cb, .slice As p.sizes.length cs] 25)).alloc (.cells #[.slice A0 s.on.length c0, .slice A1 s.orders.length c1, .slice A2 s.holds.length c2, .slice A3 s.moves.length c3, .slice A4 s.inn.length c4, .slice A5 s.out.length c5, .slice A6 s.fixed.length c6] 31)).cell? ⟨w.heap.size + 1, 1, none⟩ = some (.slice A1 s.orders.length c1) ∧ ((w.alloc (.cells #[.slice Ab p.bins.length cb, .slice As p.sizes.length cs] 25)).alloc (.cells #[.slice A0 s.on.length c0, .slice A1 s.orders.length c1, .slice A2 s.holds.length c2, .slice A3 s.moves.length c3, .slice A4 s.inn.length c4, .slice A5 s.out.length c5, .slice A6 s.fixed.length c6] 31)).cell? ⟨w.heap.size + 1, 2, none⟩ = some (.slice A2 s.holds.length c2) ∧ ((w.alloc (.cells #[.slice Ab p.bins.length cb, .slice As p.sizes.length cs] 25)).alloc (.cells #[.slice A0 s.on.length c0, .slice A1 s.orders.length c1, .slice A2 s.holds.length c2, .slice A3 s.moves.length c3, .slice A4 s.inn.length c4, .slice A5 s.out.length c5, .slice A6 s.fixed.length c6] 31)).cell? ⟨w.heap.size + 1, 3, none⟩ = some (.slice A3 s.moves.length c3) ∧
      ((w.alloc (.cells #[.slice Ab p.bins.length cb, .slice As p.sizes.length cs] 25)).alloc (.cells #[.slice A0 s.on.length c0, .slice A1 s.orders.length c1, .slice A2 s.holds.length c2, .slice A3 s.moves.length c3, .slice A4 s.inn.length c4, .slice A5 s.out.length c5, .slice A6 s.fixed.length c6] 31)).cell? ⟨w.heap.size + 1, 4, none⟩ = some (.slice A4 s.inn.length c4) ∧ ((w.alloc (.cells #[.slice Ab p.bins.length cb, .slice As p.sizes.length cs] 25)).alloc (.cells #[.slice A0 s.on.length c0, .slice A1 s.orders.length c1, .slice A2 s.holds.length c2, .slice A3 s.moves.length c3, .slice A4 s.inn.length c4, .slice A5 s.out.length c5, .slice A6 s.fixed.length c6] 31)).cell? ⟨w.heap.size + 1, 5, none⟩ = some (.slice A5 s.out.length c5) ∧ ((w.alloc (.cells #[.slice Ab p.bins.length cb, .slice As p.sizes.length cs] 25)).alloc (.cells #[.slice A0 s.on.length c0, .slice A1 s.orders.length c1, .slice A2 s.holds.length c2, .slice A3 s.moves.length c3, .slice A4 s.inn.length c4, .slice A5 s.out.length c5, .slice A6 s.fixed.length c6] 31)).cell? ⟨w.heap.size + 1, 6, none⟩ = some (.slice A6 s.fixed.length c6) := by simp
  have hO := Lib.hid (fun W (hW : Below w.heap.size w W) => (SlOrders.up ⟨A1, c1, vs1, rfl, hl1, hm1, ha1, hr1⟩ hW hW.size : SlOrders W W.heap.size (.slice A1 s.orders.length c1) s.orders))
  have hH := Lib.hid (fun W (hW : Below w.heap.size w W) => (Sl.up ⟨A2, c2, rfl, hl2, ha2⟩ hW hW.size : Sl cHold W W.heap.size (.slice A2 s.holds.length c2) s.holds))
  have hM := Lib.hid (fun W (hW : Below w.heap.size w W) => (Sl.up ⟨A3, c3, rfl, hl3, ha3⟩ hW hW.size : Sl cMove W W.heap.size (.slice A3 s.moves.length c3) s.moves))
  have hI := Lib.hid (fun W (hW : Below w.heap.size w W) => (Sl.up ⟨A4, c4, rfl, hl4, ha4⟩ hW hW.size : Sl cInt W W.heap.size (.slice A4 s.inn.length c4) s.inn))
  have hU := Lib.hid (fun W (hW : Below w.heap.size w W) => (Sl.up ⟨A5, c5, rfl, hl5, ha5⟩ hW hW.size : Sl cInt W W.heap.size (.slice A5 s.out.length c5) s.out))
  have hX := Lib.hid (fun W (hW : Below w.heap.size w W) => (Sl.up ⟨A6, c6, rfl, hl6, ha6⟩ hW hW.size : Sl cInt W W.heap.size (.slice A6 s.fixed.length c6) s.fixed))
  have hP' := Lib.hid (fun W (hW : Below w.heap.size w W) => hP.up hW hW.size)
  have hl3' := Lib.hid hll3
  clear hz hll3 hP hS
  go_enter Tryz.func39, Tryz.ntmps39
  go_wp2_with fail
  generalize hW0 : (w.alloc (.cells #[.slice Ab p.bins.length cb, .slice As p.sizes.length cs] 25)).alloc (.cells #[.slice A0 s.on.length c0, .slice A1 s.orders.length c1, .slice A2 s.holds.length c2, .slice A3 s.moves.length c3, .slice A4 s.inn.length c4, .slice A5 s.out.length c5, .slice A6 s.fixed.length c6] 31) = W0 at hb0 hsz0 hz0 ⊢
  have hz0' := Lib.hid hz0
  clear hW0 hz0
  have hsz1 : w.heap.size < W0.heap.size := by omega
  have hK := Lib.hid (fun W (hW : Below W0.heap.size W0 W) => And.intro (And.intro ((hW.cell (p := ⟨w.heap.size, 0, none⟩) hsz1).trans hz0'.out.1.1) ((hW.cell (p := ⟨w.heap.size, 1, none⟩) hsz1).trans hz0'.out.1.2))
    (And.intro ((hW.cell (p := ⟨w.heap.size + 1, 1, none⟩) hsz0).trans hz0'.out.2.1) (And.intro ((hW.cell (p := ⟨w.heap.size + 1, 2, none⟩) hsz0).trans hz0'.out.2.2.1) (And.intro ((hW.cell (p := ⟨w.heap.size + 1, 3, none⟩) hsz0).trans hz0'.out.2.2.2.1)
    (And.intro ((hW.cell (p := ⟨w.heap.size + 1, 4, none⟩) hsz0).trans hz0'.out.2.2.2.2.1) (And.intro ((hW.cell (p := ⟨w.heap.size + 1, 5, none⟩) hsz0).trans hz0'.out.2.2.2.2.2.1) ((hW.cell (p := ⟨w.heap.size + 1, 6, none⟩) hsz0).trans hz0'.out.2.2.2.2.2.2)))))))
  go_loopw [5, 6, 7] (fun i _ _ wr => ∃ k : Nat, k ≤ s.orders.length ∧ i = .int .i64 k ∧ (∀ j, j < k → orderOk p (orderAt s.orders j) = true) ∧ Below W0.heap.size W0 wr) (fun i _ _ _ => s.orders.length - (intOf i).toNat)
  case atStart => exact ⟨0, Nat.zero_le _, rfl, fun j hj => by omega, Below.refl _ _⟩
  case round =>
    obtain ⟨k, hk, rfl, hall, hbw⟩ := hrel
    have hall' := Lib.hid hall
    clear hall
    have hB := hb0.trans (hbw.mono hb0.size)
    obtain ⟨⟨y0, y1⟩, x1, x2, x3, x4, x5, x6⟩ := hK.out wr hbw
    have hbz0 : w.heap.size + 1 < wr.heap.size := Nat.lt_of_lt_of_le hsz0 hbw.size
    by_cases hlt : k < s.orders.length
    · obtain ⟨A', c', hok1, hAb1, d0, d1, hsl⟩ := (hO.out wr hB).order hlt
      have hl33 := hl3'.out k hlt
      cases hki : within (orderAt s.orders k).kind 0 2
      · have hfin := Lib.hid (show formed p s = false from formed_no fun h => by
          have := all_at dOrder (formed_iff.1 h).1 hlt
          change orderOk p (orderAt s.orders k) = true at this
          unfold orderOk at this
          rw [hki] at this; cases this)
        go_wp2_with (go_at_call 38; refine (rWithin _ _ _ _).mono ?_; rintro e w' ⟨rfl, rfl⟩)
        go_ret
        exact ⟨ret_bool (by rw [hfin.out]), hB⟩
      · have hki' := Lib.hid hki
        go_wp2_with (go_at_call 38; refine (rWithin _ _ _ _).mono ?_; rintro e w' ⟨rfl, rfl⟩)
        go_loopw [6, 7] (fun i _ wr => ∃ m : Nat, m ≤ (orderAt s.orders k).lines.length ∧ i = .int .i64 m ∧ (∀ j, j < m → lineOk p (lineAt (orderAt s.orders k).lines j) = true) ∧ Below W0.heap.size W0 wr) (fun i _ _ => (orderAt s.orders k).lines.length - (intOf i).toNat)
        case atStart => exact ⟨0, Nat.zero_le _, rfl, fun j hj => by omega, hbw⟩
        case round =>
          clear hbw hB y0 y1 x1 x2 x3 x4 x5 x6 hbz0 hok1 hAb1 d0 d1 hsl
          obtain ⟨m, hm, rfl, hallm, hbw⟩ := hrel
          have hallm' := Lib.hid hallm
          clear hallm
          have hB := hb0.trans (hbw.mono hb0.size)
          obtain ⟨⟨y0, y1⟩, x1, x2, x3, x4, x5, x6⟩ := hK.out wr hbw
          have hbz0 : w.heap.size + 1 < wr.heap.size := Nat.lt_of_lt_of_le hsz0 hbw.size
          have hbz1 : w.heap.size < wr.heap.size := by omega
          obtain ⟨A', c', hok1, hAb1, d0, d1, hsl⟩ := (hO.out wr hB).order hlt
          by_cases hml : m < (orderAt s.orders k).lines.length
          · obtain ⟨hok2, hAb2, e0, e1, e2, e3⟩ := hsl.at_.line hml
            have hba : Below W0.heap.size W0 (wr.alloc (.cells #[.int .i64 (lineAt (orderAt s.orders k).lines m).good, .int .i64 (lineAt (orderAt s.orders k).lines m).want, .int .i64 (lineAt (orderAt s.orders k).lines m).got, .int .i64 (lineAt (orderAt s.orders k).lines m).back] 44)) := hbw.alloc hbw.size _
            have hBa := hb0.trans (hba.mono hb0.size)
            rcases lineR_parts p (lineAt (orderAt s.orders k).lines m) with ⟨g1, hf⟩ | ⟨g1, g2, hf⟩ | ⟨g1, g2, g3, hf⟩ | ⟨g1, g2, g3, g4, hf⟩ | ⟨g1, g2, g3, g4, hf⟩
            rotate_left 4
            focus
              have hf' := Lib.hid hf
              clear hf
              go_wp2_with (first | (go_at_call 38; refine (rWithin _ _ _ _).mono ?_; rintro e w' ⟨rfl, rfl⟩) | (go_at_call 69; refine (rIsGood _ _ p _ (hP'.out _ hBa) (by omega)).mono ?_; rintro e W1 ⟨rfl, hb1⟩; obtain ⟨hc1, hf1⟩ := bcell hb1; have hz1 := hb1.size))
              go_roundw
              case rel =>
                refine ⟨m + 1, by omega, by go_num, fun j hj => ?_, hba.trans (hb1.mono hba.size)⟩
                rcases Nat.lt_succ_iff_lt_or_eq.1 hj with h | rfl
                · exact hallm'.out j h
                · exact hf'.out
              case measure => simp [intOf]; omega
            all_goals
              have hfin := Lib.hid (show formed p s = false from formed_no fun h => by
                have h1 := all_at dOrder (formed_iff.1 h).1 hlt
                have h2 : lineOk p (lineAt (orderAt s.orders k).lines m) = true := all_at dLine (orderOk_iff.1 h1).2 hml
                rw [hf] at h2; cases h2)
              clear hf
              go_wp2_with (first | (go_at_call 38; refine (rWithin _ _ _ _).mono ?_; rintro e w' ⟨rfl, rfl⟩) | (go_at_call 69; refine (rIsGood _ _ p _ (hP'.out _ hBa) (by omega)).mono ?_; rintro e W1 ⟨rfl, hb1⟩; obtain ⟨hc1, hf1⟩ := bcell hb1; have hz1 := hb1.size))
              go_ret
              exact ⟨ret_bool (by rw [hfin.out]), hBa.trans (hb1.mono hBa.size)⟩
          · obtain rfl : m = (orderAt s.orders k).lines.length := by omega
            go_wp2_with fail
            go_roundw
            case rel =>
              refine ⟨k + 1, by omega, by go_num, fun j hj => ?_, hbw⟩
              rcases Nat.lt_succ_iff_lt_or_eq.1 hj with h | rfl
              · exact hall'.out j h
              · exact orderOk_iff.2 ⟨within_iff.1 hki'.out, all_of dLine hallm'.out⟩
            case measure => simp [intOf]; omega
    · obtain rfl : k = s.orders.length := by omega
      have hord := Lib.hid (all_of dOrder hall'.out)
      clear hall'
      go_wp2_with fail
      refine (rCheckHolds _ _ s.holds (hH.out wr hB)).mono ?_
      rintro e W1 ⟨rfl, hb1⟩
      have hba := hbw.trans (hb1.mono hbw.size)
      have hBa := hb0.trans (hba.mono hb0.size)
      clear y0 y1 x1 x2 x3 x4 x5 x6 hbz0
      obtain ⟨⟨y0, y1⟩, x1, x2, x3, x4, x5, x6⟩ := hK.out W1 hba
      cases hok : holdsOk s.holds
      · have hc : checkHolds s.holds = 1 := by unfold checkHolds; rw [hok]; rfl
        have hfin := Lib.hid (show formed p s = false from formed_no fun h => by
          have := (formed_iff.1 h).2.1
          rw [hok] at this; cases this)
        rw [hc]
        clear hc hok
        go_wp2_with fail
        go_ret
        exact ⟨ret_bool (by rw [hfin.out]), hBa⟩
      have hc : checkHolds s.holds = 0 := by unfold checkHolds; rw [hok]; rfl
      have hl72 := ok_len72 hok
      have hok' := Lib.hid hok
      rw [hc]
      clear hc hok
      go_wp2_with fail
      go_loopw [8, 9] (fun i _ wr => ∃ m : Nat, m ≤ s.holds.length ∧ i = .int .i64 m ∧ (∀ j, j < m → holdIn p s (hold s.holds j) = true) ∧ Below W0.heap.size W0 wr) (fun i _ _ => s.holds.length - (intOf i).toNat)
      case atStart => exact ⟨0, Nat.zero_le _, rfl, fun j hj => by omega, hba⟩
      case round =>
        clear hbw hB y0 y1 x1 x2 x3 x4 x5 x6 hb1 hba hBa
        obtain ⟨m, hm, rfl, hallm, hbw⟩ := hrel
        have hallm' := Lib.hid hallm
        clear hallm
        have hB := hb0.trans (hbw.mono hb0.size)
        obtain ⟨⟨y0, y1⟩, x1, x2, x3, x4, x5, x6⟩ := hK.out wr hbw
        have hbz0 : w.heap.size + 1 < wr.heap.size := Nat.lt_of_lt_of_le hsz0 hbw.size
        have hbz1 : w.heap.size < wr.heap.size := by omega
        by_cases hml : m < s.holds.length
        · obtain ⟨hok2, hAb2, e0, e1, e2, e3⟩ := (hH.out wr hB).at_.hold hml
          have hkey := ok_key hok'.out hml
          have hba : Below W0.heap.size W0 (wr.alloc (.cells #[.int .i64 (hold s.holds m).order, .int .i64 (hold s.holds m).line, .int .i64 (hold s.holds m).bin, .int .i64 (hold s.holds m).n] 46)) := hbw.alloc hbw.size _
          have hBa := hb0.trans (hba.mono hb0.size)
          have hlW : wr.heap.size < (wr.alloc (.cells #[.int .i64 (hold s.holds m).order, .int .i64 (hold s.holds m).line, .int .i64 (hold s.holds m).bin, .int .i64 (hold s.holds m).n] 46)).heap.size := by simp
          have q0 := fun o d os => cells_wld (w := wr.alloc (.cells #[.int .i64 (hold s.holds m).order, .int .i64 (hold s.holds m).line, .int .i64 (hold s.holds m).bin, .int .i64 (hold s.holds m).n] 46)) (b := w.heap.size) (by simp; omega) o d os
          have q1 := fun o d os => cells_wld (w := wr.alloc (.cells #[.int .i64 (hold s.holds m).order, .int .i64 (hold s.holds m).line, .int .i64 (hold s.holds m).bin, .int .i64 (hold s.holds m).n] 46)) (b := w.heap.size + 1) (by simp; omega) o d os
          have q2 := fun o d os => cells_wld (w := wr.alloc (.cells #[.int .i64 (hold s.holds m).order, .int .i64 (hold s.holds m).line, .int .i64 (hold s.holds m).bin, .int .i64 (hold s.holds m).n] 46)) (b := wr.heap.size) hlW o d os
          unfold keyOk at hkey
          obtain ⟨⟨k1, k2⟩, ⟨k3, k4⟩, ⟨k5, k6⟩⟩ := hkey
          have hbin := isBin_lt p k5
          have hP2 := Lib.hid (fun d os => hP'.out _ (hBa.trans ((below_wld (wr.alloc (.cells #[.int .i64 (hold s.holds m).order, .int .i64 (hold s.holds m).line, .int .i64 (hold s.holds m).bin, .int .i64 (hold s.holds m).n] 46)) d os).mono hBa.size)))
          rcases holdIn_parts p s (hold s.holds m) with ⟨g1, hf⟩ | ⟨g1, g2, hf⟩ | ⟨g1, g2, g3, hf⟩ | ⟨g1, g2, g3, hf⟩
          · have d1 : decide ((hold s.holds m).order < (s.orders.length : Int)) = false := by simpa using g1
            have d1' : decide ((s.orders.length : Int) ≤ (hold s.holds m).order) = true := by simpa using g1
            have hfin := Lib.hid (show formed p s = false from formed_no fun h => by
              have h2 : holdIn p s (hold s.holds m) = true := all_at dHold (formed_iff.1 h).2.2.1 hml
              rw [hf] at h2; cases h2)
            clear hf hbin
            go_wp2_with fail
            refine wp_region_wld (by kernel_rfl) (by kernel_rfl) ?_
            repeat (go_big_quiet_step ((go_at_call 68; refine calls_wld (rIsBin _ _ p _ (hP2.out _ _) (by omega)))))
            refine wpQuiet_nil ?_
            intro W2 hw'
            have hb2 := below_of_cls hw'
            clear hw'
            go_wp2_with fail
            go_ret
            exact ⟨ret_bool (by rw [hfin.out]), hBa.trans (hb2.mono hBa.size)⟩
          · have hol : (hold s.holds m).order.toNat < s.orders.length := by omega
            obtain ⟨A', c', hok1, hAb1, d0, d1, hsl⟩ := (hO.out wr hB).order hol
            have hll := hl3'.out _ hol
            have q3 := fun o d os => cells_wld (w := wr.alloc (.cells #[.int .i64 (hold s.holds m).order, .int .i64 (hold s.holds m).line, .int .i64 (hold s.holds m).bin, .int .i64 (hold s.holds m).n] 46)) (b := ablk A1) (by simp; omega) o d os
            unfold State.order at g2
            have d1 : decide ((hold s.holds m).order < (s.orders.length : Int)) = true := by simpa using g1
            have d1' : decide ((s.orders.length : Int) ≤ (hold s.holds m).order) = false := by simpa using g1
            have d2 : decide ((hold s.holds m).line < ((orderAt s.orders (hold s.holds m).order.toNat).lines.length : Int)) = false := by simpa using g2
            have d2' : decide (((orderAt s.orders (hold s.holds m).order.toNat).lines.length : Int) ≤ (hold s.holds m).line) = true := by simpa using g2
            have hfin := Lib.hid (show formed p s = false from formed_no fun h => by
              have h2 : holdIn p s (hold s.holds m) = true := all_at dHold (formed_iff.1 h).2.2.1 hml
              rw [hf] at h2; cases h2)
            clear hf hbin
            go_wp2_with fail
            refine wp_region_wld (by kernel_rfl) (by kernel_rfl) ?_
            repeat (go_big_quiet_step ((go_at_call 68; refine calls_wld (rIsBin _ _ p _ (hP2.out _ _) (by omega)))))
            refine wpQuiet_nil ?_
            intro W2 hw'
            have hb2 := below_of_cls hw'
            clear hw'
            go_wp2_with fail
            go_ret
            exact ⟨ret_bool (by rw [hfin.out]), hBa.trans (hb2.mono hBa.size)⟩
          · have hol : (hold s.holds m).order.toNat < s.orders.length := by omega
            obtain ⟨A', c', hok1, hAb1, d0, d1, hsl⟩ := (hO.out wr hB).order hol
            have hll := hl3'.out _ hol
            have q3 := fun o d os => cells_wld (w := wr.alloc (.cells #[.int .i64 (hold s.holds m).order, .int .i64 (hold s.holds m).line, .int .i64 (hold s.holds m).bin, .int .i64 (hold s.holds m).n] 46)) (b := ablk A1) (by simp; omega) o d os
            unfold State.order at g2
            have d1 : decide ((hold s.holds m).order < (s.orders.length : Int)) = true := by simpa using g1
            have d1' : decide ((s.orders.length : Int) ≤ (hold s.holds m).order) = false := by simpa using g1
            have d2 : decide ((hold s.holds m).line < ((orderAt s.orders (hold s.holds m).order.toNat).lines.length : Int)) = true := by simpa using g2
            have d2' : decide (((orderAt s.orders (hold s.holds m).order.toNat).lines.length : Int) ≤ (hold s.holds m).line) = false := by simpa using g2
            have hbin2 : isBin p (hold s.holds m).bin = false := by rw [hbin]; simpa using g3
            have hfin := Lib.hid (show formed p s = false from formed_no fun h => by
              have h2 : holdIn p s (hold s.holds m) = true := all_at dHold (formed_iff.1 h).2.2.1 hml
              rw [hf] at h2; cases h2)
            clear hf hbin
            go_wp2_with fail
            refine wp_region_wld (by kernel_rfl) (by kernel_rfl) ?_
            repeat (go_big_quiet_step ((go_at_call 68; refine calls_wld (rIsBin _ _ p _ (hP2.out _ _) (by omega)))))
            refine wpQuiet_nil ?_
            intro W2 hw'
            have hb2 := below_of_cls hw'
            clear hw'
            go_wp2_with fail
            go_ret
            exact ⟨ret_bool (by rw [hfin.out]), hBa.trans (hb2.mono hBa.size)⟩
          · have hol : (hold s.holds m).order.toNat < s.orders.length := by omega
            obtain ⟨A', c', hok1, hAb1, d0, d1, hsl⟩ := (hO.out wr hB).order hol
            have hll := hl3'.out _ hol
            have q3 := fun o d os => cells_wld (w := wr.alloc (.cells #[.int .i64 (hold s.holds m).order, .int .i64 (hold s.holds m).line, .int .i64 (hold s.holds m).bin, .int .i64 (hold s.holds m).n] 46)) (b := ablk A1) (by simp; omega) o d os
            unfold State.order at g2
            have d1 : decide ((hold s.holds m).order < (s.orders.length : Int)) = true := by simpa using g1
            have d1' : decide ((s.orders.length : Int) ≤ (hold s.holds m).order) = false := by simpa using g1
            have d2 : decide ((hold s.holds m).line < ((orderAt s.orders (hold s.holds m).order.toNat).lines.length : Int)) = true := by simpa using g2
            have d2' : decide (((orderAt s.orders (hold s.holds m).order.toNat).lines.length : Int) ≤ (hold s.holds m).line) = false := by simpa using g2
            have hbin2 : isBin p (hold s.holds m).bin = true := by rw [hbin]; simpa using g3
            have hf' := Lib.hid hf
            clear hf hbin
            go_wp2_with fail
            refine wp_region_wld (by kernel_rfl) (by kernel_rfl) ?_
            repeat (go_big_quiet_step ((go_at_call 68; refine calls_wld (rIsBin _ _ p _ (hP2.out _ _) (by omega)))))
            refine wpQuiet_nil ?_
            intro W2 hw'
            have hb2 := below_of_cls hw'
            clear hw'
            go_wp2_with fail
            go_roundw
            case rel =>
              refine ⟨m + 1, by omega, by go_num, fun j hj => ?_, hba.trans (hb2.mono hba.size)⟩
              rcases Nat.lt_succ_iff_lt_or_eq.1 hj with h | rfl
              · exact hallm'.out j h
              · exact hf'.out
            case measure => simp [intOf]; omega
        · obtain rfl : m = s.holds.length := by omega
          have hhin := Lib.hid (all_of dHold hallm'.out)
          clear hallm'
          go_wp2_with fail
          go_loopw [10, 11] (fun i _ wr => ∃ m : Nat, m ≤ s.moves.length ∧ i = .int .i64 m ∧ (∀ j, j < m → moveOk p (moveAt s.moves j) = true) ∧ Below W0.heap.size W0 wr) (fun i _ _ => s.moves.length - (intOf i).toNat)
          case atStart => exact ⟨0, Nat.zero_le _, rfl, fun j hj => by omega, hbw⟩
          case round =>
            clear hbw hB y0 y1 x1 x2 x3 x4 x5 x6 hbz0 hbz1
            obtain ⟨m, hm, rfl, hallm, hbw⟩ := hrel
            have hallm' := Lib.hid hallm
            clear hallm
            have hB := hb0.trans (hbw.mono hb0.size)
            obtain ⟨⟨y0, y1⟩, x1, x2, x3, x4, x5, x6⟩ := hK.out wr hbw
            have hbz0 : w.heap.size + 1 < wr.heap.size := Nat.lt_of_lt_of_le hsz0 hbw.size
            have hbz1 : w.heap.size < wr.heap.size := by omega
            by_cases hml : m < s.moves.length
            · obtain ⟨hok2, hAb2, e0, e1, e2, e3⟩ := (hM.out wr hB).at_.move hml
              have hba : Below W0.heap.size W0 (wr.alloc (.cells #[.int .i64 (moveAt s.moves m).good, .int .i64 (moveAt s.moves m).src, .int .i64 (moveAt s.moves m).dst, .int .i64 (moveAt s.moves m).n] 48)) := hbw.alloc hbw.size _
              have hBa := hb0.trans (hba.mono hb0.size)
              have hlW : wr.heap.size < (wr.alloc (.cells #[.int .i64 (moveAt s.moves m).good, .int .i64 (moveAt s.moves m).src, .int .i64 (moveAt s.moves m).dst, .int .i64 (moveAt s.moves m).n] 48)).heap.size := by simp
              rcases moveR_parts p (moveAt s.moves m) with ⟨g1, hf⟩ | ⟨g1, g2, hf⟩ | ⟨g1, g2, g3, hf⟩ | ⟨g1, g2, g3, g4, hf⟩ | ⟨g1, g2, g3, g4, g5, hf⟩ | ⟨g1, g2, g3, g4, g5, hf⟩
              rotate_left 5
              focus
                have hf' := Lib.hid hf
                clear hf
                go_wp2_with fail
                refine (rIsGood _ _ p _ (hP'.out _ hBa) (by omega)).mono ?_
                rintro e W1 ⟨rfl, hb1⟩
                obtain ⟨uc1, uf1⟩ := bcell hb1
                have hs1 := hb1.size
                have ht1 : w.heap.size < W1.heap.size := by omega
                have ht1' : wr.heap.size < W1.heap.size := by omega
                have hBb := hBa.trans (hb1.mono hBa.size)
                go_wp2_with fail
                refine (rIsBin _ _ p _ (hP'.out _ hBb) (by omega)).mono ?_
                rintro e W2 ⟨rfl, hb2⟩
                obtain ⟨uc2, uf2⟩ := bcell hb2
                have hs2 := hb2.size
                have ht2 : w.heap.size < W2.heap.size := by omega
                have ht2' : wr.heap.size < W2.heap.size := by omega
                have hBc := hBb.trans (hb2.mono hBb.size)
                go_wp2_with fail
                refine (rIsBin _ _ p _ (hP'.out _ hBc) (by omega)).mono ?_
                rintro e W3 ⟨rfl, hb3⟩
                obtain ⟨uc3, uf3⟩ := bcell hb3
                have hs3 := hb3.size
                have ht3 : w.heap.size < W3.heap.size := by omega
                have ht3' : wr.heap.size < W3.heap.size := by omega
                go_wp2_with (go_at_call 38; refine (rWithin _ _ _ _).mono ?_; rintro e w' ⟨rfl, rfl⟩)
                go_roundw
                case rel =>
                  refine ⟨m + 1, by omega, by go_num, fun j hj => ?_, (hba.trans (hb1.mono hba.size)).trans ((hb2.trans (hb3.mono hb2.size)).mono (hba.trans (hb1.mono hba.size)).size)⟩
                  rcases Nat.lt_succ_iff_lt_or_eq.1 hj with h | rfl
                  · exact hallm'.out j h
                  · exact hf'.out
                case measure => simp [intOf]; omega
              · have hfin := Lib.hid (show formed p s = false from formed_no fun h => by
                  have h2 : moveOk p (moveAt s.moves m) = true := all_at dMove (formed_iff.1 h).2.2.2.1 hml
                  rw [hf] at h2; cases h2)
                clear hf
                go_wp2_with fail
                refine (rIsGood _ _ p _ (hP'.out _ hBa) (by omega)).mono ?_
                rintro e W1 ⟨rfl, hb1⟩
                obtain ⟨uc1, uf1⟩ := bcell hb1
                have hs1 := hb1.size
                have ht1 : w.heap.size < W1.heap.size := by omega
                have ht1' : wr.heap.size < W1.heap.size := by omega
                have hBb := hBa.trans (hb1.mono hBa.size)
                go_wp2_with fail
                go_ret
                exact ⟨ret_bool (by rw [hfin.out]), hBb⟩
              · have hfin := Lib.hid (show formed p s = false from formed_no fun h => by
                  have h2 : moveOk p (moveAt s.moves m) = true := all_at dMove (formed_iff.1 h).2.2.2.1 hml
                  rw [hf] at h2; cases h2)
                clear hf
                go_wp2_with fail
                refine (rIsGood _ _ p _ (hP'.out _ hBa) (by omega)).mono ?_
                rintro e W1 ⟨rfl, hb1⟩
                obtain ⟨uc1, uf1⟩ := bcell hb1
                have hs1 := hb1.size
                have ht1 : w.heap.size < W1.heap.size := by omega
                have ht1' : wr.heap.size < W1.heap.size := by omega
                have hBb := hBa.trans (hb1.mono hBa.size)
                go_wp2_with fail
                refine (rIsBin _ _ p _ (hP'.out _ hBb) (by omega)).mono ?_
                rintro e W2 ⟨rfl, hb2⟩
                obtain ⟨uc2, uf2⟩ := bcell hb2
                have hs2 := hb2.size
                have ht2 : w.heap.size < W2.heap.size := by omega
                have ht2' : wr.heap.size < W2.heap.size := by omega
                have hBc := hBb.trans (hb2.mono hBb.size)
                go_wp2_with fail
                go_ret
                exact ⟨ret_bool (by rw [hfin.out]), hBc⟩
              · have hfin := Lib.hid (show formed p s = false from formed_no fun h => by
                  have h2 : moveOk p (moveAt s.moves m) = true := all_at dMove (formed_iff.1 h).2.2.2.1 hml
                  rw [hf] at h2; cases h2)
                clear hf
                go_wp2_with fail
                refine (rIsGood _ _ p _ (hP'.out _ hBa) (by omega)).mono ?_
                rintro e W1 ⟨rfl, hb1⟩
                obtain ⟨uc1, uf1⟩ := bcell hb1
                have hs1 := hb1.size
                have ht1 : w.heap.size < W1.heap.size := by omega
                have ht1' : wr.heap.size < W1.heap.size := by omega
                have hBb := hBa.trans (hb1.mono hBa.size)
                go_wp2_with fail
                refine (rIsBin _ _ p _ (hP'.out _ hBb) (by omega)).mono ?_
                rintro e W2 ⟨rfl, hb2⟩
                obtain ⟨uc2, uf2⟩ := bcell hb2
                have hs2 := hb2.size
                have ht2 : w.heap.size < W2.heap.size := by omega
                have ht2' : wr.heap.size < W2.heap.size := by omega
                have hBc := hBb.trans (hb2.mono hBb.size)
                go_wp2_with fail
                refine (rIsBin _ _ p _ (hP'.out _ hBc) (by omega)).mono ?_
                rintro e W3 ⟨rfl, hb3⟩
                obtain ⟨uc3, uf3⟩ := bcell hb3
                have hs3 := hb3.size
                have ht3 : w.heap.size < W3.heap.size := by omega
                have ht3' : wr.heap.size < W3.heap.size := by omega
                have hBd := hBc.trans (hb3.mono hBc.size)
                go_wp2_with fail
                go_ret
                exact ⟨ret_bool (by rw [hfin.out]), hBd⟩
              · have hfin := Lib.hid (show formed p s = false from formed_no fun h => by
                  have h2 : moveOk p (moveAt s.moves m) = true := all_at dMove (formed_iff.1 h).2.2.2.1 hml
                  rw [hf] at h2; cases h2)
                clear hf
                go_wp2_with fail
                refine (rIsGood _ _ p _ (hP'.out _ hBa) (by omega)).mono ?_
                rintro e W1 ⟨rfl, hb1⟩
                obtain ⟨uc1, uf1⟩ := bcell hb1
                have hs1 := hb1.size
                have ht1 : w.heap.size < W1.heap.size := by omega
                have ht1' : wr.heap.size < W1.heap.size := by omega
                have hBb := hBa.trans (hb1.mono hBa.size)
                go_wp2_with fail
                refine (rIsBin _ _ p _ (hP'.out _ hBb) (by omega)).mono ?_
                rintro e W2 ⟨rfl, hb2⟩
                obtain ⟨uc2, uf2⟩ := bcell hb2
                have hs2 := hb2.size
                have ht2 : w.heap.size < W2.heap.size := by omega
                have ht2' : wr.heap.size < W2.heap.size := by omega
                have hBc := hBb.trans (hb2.mono hBb.size)
                go_wp2_with fail
                refine (rIsBin _ _ p _ (hP'.out _ hBc) (by omega)).mono ?_
                rintro e W3 ⟨rfl, hb3⟩
                obtain ⟨uc3, uf3⟩ := bcell hb3
                have hs3 := hb3.size
                have ht3 : w.heap.size < W3.heap.size := by omega
                have ht3' : wr.heap.size < W3.heap.size := by omega
                have hBd := hBc.trans (hb3.mono hBc.size)
                go_wp2_with fail
                go_ret
                exact ⟨ret_bool (by rw [hfin.out]), hBd⟩
              · have hfin := Lib.hid (show formed p s = false from formed_no fun h => by
                  have h2 : moveOk p (moveAt s.moves m) = true := all_at dMove (formed_iff.1 h).2.2.2.1 hml
                  rw [hf] at h2; cases h2)
                clear hf
                go_wp2_with fail
                refine (rIsGood _ _ p _ (hP'.out _ hBa) (by omega)).mono ?_
                rintro e W1 ⟨rfl, hb1⟩
                obtain ⟨uc1, uf1⟩ := bcell hb1
                have hs1 := hb1.size
                have ht1 : w.heap.size < W1.heap.size := by omega
                have ht1' : wr.heap.size < W1.heap.size := by omega
                have hBb := hBa.trans (hb1.mono hBa.size)
                go_wp2_with fail
                refine (rIsBin _ _ p _ (hP'.out _ hBb) (by omega)).mono ?_
                rintro e W2 ⟨rfl, hb2⟩
                obtain ⟨uc2, uf2⟩ := bcell hb2
                have hs2 := hb2.size
                have ht2 : w.heap.size < W2.heap.size := by omega
                have ht2' : wr.heap.size < W2.heap.size := by omega
                have hBc := hBb.trans (hb2.mono hBb.size)
                go_wp2_with fail
                refine (rIsBin _ _ p _ (hP'.out _ hBc) (by omega)).mono ?_
                rintro e W3 ⟨rfl, hb3⟩
                obtain ⟨uc3, uf3⟩ := bcell hb3
                have hs3 := hb3.size
                have ht3 : w.heap.size < W3.heap.size := by omega
                have ht3' : wr.heap.size < W3.heap.size := by omega
                have hBd := hBc.trans (hb3.mono hBc.size)
                go_wp2_with (go_at_call 38; refine (rWithin _ _ _ _).mono ?_; rintro e w' ⟨rfl, rfl⟩)
                go_ret
                exact ⟨ret_bool (by rw [hfin.out]), hBd⟩
            · obtain rfl : m = s.moves.length := by omega
              have hmv := Lib.hid (all_of dMove hallm'.out)
              clear hallm'
              obtain ⟨aA0, aA1⟩ := And.intro hlb hls
              rcases sumsR_parts p s with ⟨g1, hf⟩ | ⟨g1, g2, hf⟩ | ⟨g1, g2, g3, hf⟩ | ⟨g1, g2, g3⟩
              · have hn1 : ((s.inn.length : Int) == (p.sizes.length : Int)) = false := by simp; omega
                have hm1 : ((s.inn.length : Int) != (p.sizes.length : Int)) = true := by simp; omega
                have hfin := Lib.hid hf
                clear hf g1
                go_wp2_with fail
                go_ret
                exact ⟨ret_bool (by rw [hfin.out]), hB⟩
              · have hn1 : ((s.inn.length : Int) == (p.sizes.length : Int)) = true := by simp; omega
                have hm1 : ((s.inn.length : Int) != (p.sizes.length : Int)) = false := by simp; omega
                have hn2 : ((s.out.length : Int) == (p.sizes.length : Int)) = false := by simp; omega
                have hm2 : ((s.out.length : Int) != (p.sizes.length : Int)) = true := by simp; omega
                have hfin := Lib.hid hf
                clear hf g1 g2
                go_wp2_with fail
                go_ret
                exact ⟨ret_bool (by rw [hfin.out]), hB⟩
              · have hn1 : ((s.inn.length : Int) == (p.sizes.length : Int)) = true := by simp; omega
                have hm1 : ((s.inn.length : Int) != (p.sizes.length : Int)) = false := by simp; omega
                have hn2 : ((s.out.length : Int) == (p.sizes.length : Int)) = true := by simp; omega
                have hm2 : ((s.out.length : Int) != (p.sizes.length : Int)) = false := by simp; omega
                have hn3 : ((s.fixed.length : Int) == (p.sizes.length : Int)) = false := by simp; omega
                have hm3 : ((s.fixed.length : Int) != (p.sizes.length : Int)) = true := by simp; omega
                have hfin := Lib.hid hf
                clear hf g1 g2 g3
                go_wp2_with fail
                go_ret
                exact ⟨ret_bool (by rw [hfin.out]), hB⟩
              · have hn1 : ((s.inn.length : Int) == (p.sizes.length : Int)) = true := by simp; omega
                have hm1 : ((s.inn.length : Int) != (p.sizes.length : Int)) = false := by simp; omega
                have hn2 : ((s.out.length : Int) == (p.sizes.length : Int)) = true := by simp; omega
                have hm2 : ((s.out.length : Int) != (p.sizes.length : Int)) = false := by simp; omega
                have hn3 : ((s.fixed.length : Int) == (p.sizes.length : Int)) = true := by simp; omega
                have hm3 : ((s.fixed.length : Int) != (p.sizes.length : Int)) = false := by simp; omega
                have hg1 := Lib.hid g1
                have hg2 := Lib.hid g2
                have hg3 := Lib.hid g3
                clear g1 g2 g3
                go_wp2_with fail
                clear hn1 hn2 hn3 hm1 hm2 hm3
                go_loopw [12] (fun i wr => ∃ m : Nat, m ≤ p.sizes.length ∧ i = .int .i64 m ∧ (∀ j, j < m → goodR s j = true) ∧ Below W0.heap.size W0 wr) (fun i _ => p.sizes.length - (intOf i).toNat)
                case atStart => exact ⟨0, Nat.zero_le _, rfl, fun j hj => by omega, hbw⟩
                case round =>
                  clear hbw hB y0 y1 x1 x2 x3 x4 x5 x6 hbz0 hbz1
                  obtain ⟨m, hm, rfl, hallm, hbw⟩ := hrel
                  have hallm' := Lib.hid hallm
                  clear hallm
                  have hB := hb0.trans (hbw.mono hb0.size)
                  obtain ⟨⟨y0, y1⟩, x1, x2, x3, x4, x5, x6⟩ := hK.out wr hbw
                  have hbz0 : w.heap.size + 1 < wr.heap.size := Nat.lt_of_lt_of_le hsz0 hbw.size
                  have hbz1 : w.heap.size < wr.heap.size := by omega
                  by_cases hml : m < p.sizes.length
                  · have hm4 : m < s.inn.length := by have := hg1.out; omega
                    have hm5 : m < s.out.length := by have := hg2.out; omega
                    have hm6 : m < s.fixed.length := by have := hg3.out; omega
                    obtain ⟨o4, l4, r4⟩ := (hI.out wr hB).at_.int hm4
                    obtain ⟨o5, l5, r5⟩ := (hU.out wr hB).at_.int hm5
                    obtain ⟨o6, l6, r6⟩ := (hX.out wr hB).at_.int hm6
                    rcases goodR_parts s m with ⟨g1, hf⟩ | ⟨g1, g2, hf⟩ | ⟨g1, g2, g3, hf⟩ | ⟨g1, g2, g3, hf⟩
                    rotate_left 3
                    focus
                      have hf' := Lib.hid hf
                      clear hf
                      go_wp2_with (go_at_call 38; refine (rWithin _ _ _ _).mono ?_; rintro e w' ⟨rfl, rfl⟩)
                      go_roundw
                      case rel =>
                        refine ⟨m + 1, by omega, by go_num, fun j hj => ?_, hbw⟩
                        rcases Nat.lt_succ_iff_lt_or_eq.1 hj with h | rfl
                        · exact hallm'.out j h
                        · exact hf'.out
                      case measure => simp [intOf]; omega
                    all_goals
                      have hfin := Lib.hid (show formed p s = false from formed_no fun h => by
                        have h2 := formed_goodR h hml
                        rw [hf] at h2; cases h2)
                      clear hf
                      go_wp2_with (go_at_call 38; refine (rWithin _ _ _ _).mono ?_; rintro e w' ⟨rfl, rfl⟩)
                      go_ret
                      exact ⟨ret_bool (by rw [hfin.out]), hB⟩
                  · obtain rfl : m = p.sizes.length := by omega
                    have hfin := Lib.hid (formed_of hord.out hok'.out hhin.out hmv.out ⟨hg1.out, hg2.out, hg3.out⟩ hallm'.out)
                    go_wp2_with fail
                    go_ret
                    exact ⟨ret_bool (by rw [hfin.out]), hB⟩
end Wh
