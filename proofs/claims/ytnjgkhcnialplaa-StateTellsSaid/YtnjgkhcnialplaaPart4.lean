/- Texts of the claim, joined: StateH, StateI, StateM, RelG, OwnU, StateN, StateP, Open, OpenT, OpenH. -/
import Derived.Deep.OwnRows
import Derived.SizedLaws
import Derived.Deep.Slices
import Derived.Deep.Fields
import Derived.ChangeSame
import Derived.ChangeOld
import Derived.Carry
import Derived.Test.YtnjgkhcnialplaaChecked
import Derived.KernelRfl
import Derived.Test.YtnjgkhcnialplaaPart3
namespace Wh
open Go Go.RowKit Go.Shelf Go.Proofs
attribute [local go_sem] run_indexAt_letter
theorem many_no {s : State} (h : 4 < s.orders.length ∨ 8 < s.moves.length ∨ (s.orders.any fun o => !within o.lines.length 1 3) = true) : manyOk s = false := by
  cases hm : manyOk s
  · rfl
  · obtain ⟨h1, h2, h3⟩ := manyOk_iff.1 hm
    rcases h with h | h | h
    · omega
    · omega
    · rw [any_not, h3] at h
      cases h
theorem many_yes {s : State} (h1 : s.orders.length ≤ 4) (h2 : s.moves.length ≤ 8) (h3 : (s.orders.any fun o => !within o.lines.length 1 3) = false) : manyOk s = true := by
  refine manyOk_iff.2 ⟨h1, h2, ?_⟩
  rw [any_not] at h3
  simpa using h3
theorem many_lines {s : State} (h : manyOk s = true) : ∀ o, o < s.orders.length → (orderAt s.orders o).lines.length ≤ 1000 := fun o ho => by
  have := within_iff.1 (all_at dOrder (manyOk_iff.1 h).2.2 ho)
  unfold orderAt
  omega

set_option maxHeartbeats 4000000 in
theorem sCheck (w : World) (v vs : Value) (p : Plan) (s : State) (hp : PlanV w w.heap.size v p) (hv : StateV w w.heap.size vs s) :
    Calls Try.prog 24 #[v, vs] w fun e w' => e = .returned (.int .i64 (checkState p s)) ∧ Below w.heap.size w w' := by
  obtain ⟨Ab, cb, As, cs, rfl, hP', hBn, hSz, hlb, hls⟩ := openPl hp
  obtain ⟨A0, c0, A1, c1, A2, c2, A3, c3, A4, c4, A5, c5, A6, c6, rfl, hV, hN, hO, hH, hM, hI, hU, hX, hl0, hl1, hl2, hl3, hl4, hl5, hl6⟩ := openOne hv
  go_enter Try.func24, Try.ntmps24
  go_wp2_with fail
  obtain ⟨W0, hW0, hb0, hsz0, hsz1, hsE, hK⟩ := boxesTwo w p s Ab cb As cs A0 c0 A1 c1 A2 c2 A3 c3 A4 c4 A5 c5 A6 c6
  rw [hW0]
  clear hW0
  obtain ⟨⟨y0, y1⟩, x0, x1, x2, x3, x4, x5, x6, hbz0, hbz1⟩ := hK.out W0 (Below.refl W0.heap.size W0)
  go_wp2_with fail
  clear y0 y1 x0 x1 x2 x3 x4 x5 x6 hbz0 hbz1
  refine (shelfCheck _ _ _ p s.on (hP'.out _ hb0) (hN.out _ hb0)).mono ?_
  rintro e W1 ⟨rfl, hb1⟩
  have hB1 := hb0.trans (hb1.mono hb0.size)
  obtain ⟨⟨y0, y1⟩, x0, x1, x2, x3, x4, x5, x6, hbz0, hbz1⟩ := hK.out W1 (hb1)
  by_cases hsh : checkShelf p s.on = 0
  · have hsh' := Lib.hid hsh
    rw [hsh]
    clear hsh
    by_cases h4 : s.orders.length ≤ 4
    · by_cases h8 : s.moves.length ≤ 8
      · go_wp2_with fail
        clear y0 y1 x0 x1 x2 x3 x4 x5 x6 hbz0 hbz1
        refine (containsFuncOrder _ _ s.orders 56 #[] (fun o => !within o.lines.length 1 3) entersBadOrder (hO.out W1 hB1) (fun j _ W hW u hu => sBadOrder _ u W hu)).mono ?_
        rintro e W2 ⟨rfl, hb2⟩
        have hb12 := hb1.trans (hb2.mono hb1.size)
        have hB2 := hb0.trans (hb12.mono hb0.size)
        obtain ⟨⟨y0, y1⟩, x0, x1, x2, x3, x4, x5, x6, hbz0, hbz1⟩ := hK.out W2 (hb12)
        cases hany : (s.orders.any fun o => !within o.lines.length 1 3)
        · have hmy := Lib.hid (many_yes h4 h8 hany)
          clear hany
          go_wp2_with fail
          clear y0 y1 x0 x1 x2 x3 x4 x5 x6 hbz0 hbz1
          refine (sFormed _ _ _ p s (hP'.out W2 hB2) (hV.out W2 hB2) (checkShelf_zero.1 hsh'.out).1 h4 (many_lines hmy.out)).mono ?_
          rintro e W3 ⟨rfl, hb3⟩
          have hb13 := hb12.trans (hb3.mono hb12.size)
          have hB3 := hb0.trans (hb13.mono hb0.size)
          obtain ⟨⟨y0, y1⟩, x0, x1, x2, x3, x4, x5, x6, hbz0, hbz1⟩ := hK.out W3 (hb13)
          cases hf : formed p s
          · have hfin := Lib.hid (checkState_form hsh'.out hmy.out hf)
            clear hf
            go_wp2_with fail
            go_ret
            exact ⟨ret_int (by rw [hfin.out]), hB3⟩
          · have hsn := Lib.hid (Sane.mk hsh'.out hmy.out hf)
            clear hf
            go_wp2_with fail
            clear y0 y1 x0 x1 x2 x3 x4 x5 x6 hbz0 hbz1
            refine (sSummed _ _ _ p s (hP'.out W3 hB3) (hV.out W3 hB3) hsn.out).mono ?_
            rintro e W4 ⟨rfl, hb4⟩
            have hB4 := hB3.trans (hb4.mono hB3.size)
            cases hq : summed p s
            · have hfin := Lib.hid (checkState_sum hsn.out hq)
              clear hq
              go_wp2_with fail
              go_ret
              exact ⟨ret_int (by rw [hfin.out]), hB4⟩
            · have hfin := Lib.hid (checkState_ok hsn.out hq)
              clear hq
              go_wp2_with fail
              go_ret
              exact ⟨ret_int (by rw [hfin.out]), hB4⟩
        · have hfin := Lib.hid (checkState_many hsh'.out (many_no (.inr (.inr hany))))
          clear hany
          go_wp2_with fail
          go_ret
          exact ⟨ret_int (by rw [hfin.out]), hB2⟩
      · have hfin := Lib.hid (checkState_many hsh'.out (many_no (.inr (.inl (by omega)))))
        go_wp2_with fail
        go_ret
        exact ⟨ret_int (by rw [hfin.out]), hB1⟩
    · have hfin := Lib.hid (checkState_many hsh'.out (many_no (.inl (by omega))))
      go_wp2_with fail
      go_ret
      exact ⟨ret_int (by rw [hfin.out]), hB1⟩
  · have hne : (checkShelf p s.on != 0) = true := by simpa using hsh
    have hfin := Lib.hid (checkState_shelf hsh)
    clear hsh
    go_wp2_with fail
    go_ret
    exact ⟨ret_int (by rw [hfin.out]), hB1⟩

set_option maxHeartbeats 4000000 in
theorem rCheckState (w : World) (v vs : Value) (p : Plan) (s : State) (hp : PlanV w w.heap.size v p) (hv : StateV w w.heap.size vs s) :
    Calls Try.prog 16 #[v, vs] w fun e w' => e = .returned (.int .i64 (checkState p s)) ∧ Below w.heap.size w w' := by
  obtain ⟨Ab, cb, As, cs, rfl, hP', hBn, hSz, hlb, hls⟩ := openPl hp
  obtain ⟨A0, c0, A1, c1, A2, c2, A3, c3, A4, c4, A5, c5, A6, c6, rfl, hV, hN, hO, hH, hM, hI, hU, hX, hl0, hl1, hl2, hl3, hl4, hl5, hl6⟩ := openOne hv
  go_enter Try.func16, Try.ntmps16
  go_wp2_with fail
  obtain ⟨W0, hW0, hb0, hsz0, hsz1, hsE, hK⟩ := boxesTwo w p s Ab cb As cs A0 c0 A1 c1 A2 c2 A3 c3 A4 c4 A5 c5 A6 c6
  rw [hW0]
  clear hW0
  obtain ⟨⟨y0, y1⟩, x0, x1, x2, x3, x4, x5, x6, hbz0, hbz1⟩ := hK.out W0 (Below.refl W0.heap.size W0)
  go_wp2_with fail
  clear y0 y1 x0 x1 x2 x3 x4 x5 x6 hbz0 hbz1
  refine (rCheckShelf _ _ _ p s.on (hP'.out _ hb0) (hN.out _ hb0)).mono ?_
  rintro e W1 ⟨rfl, hb1⟩
  have hB1 := hb0.trans (hb1.mono hb0.size)
  obtain ⟨⟨y0, y1⟩, x0, x1, x2, x3, x4, x5, x6, hbz0, hbz1⟩ := hK.out W1 (hb1)
  by_cases hsh : checkShelf p s.on = 0
  · have hsh' := Lib.hid hsh
    rw [hsh]
    clear hsh
    by_cases h4 : s.orders.length ≤ 4
    · by_cases h8 : s.moves.length ≤ 8
      · go_wp2_with fail
        go_loopw [6] (fun i wr => ∃ k : Nat, k ≤ s.orders.length ∧ i = .int .i64 k ∧ (∀ j, j < k → within (orderAt s.orders j).lines.length 1 3 = true) ∧ Below W0.heap.size W0 wr) (fun i _ => s.orders.length - (intOf i).toNat)
        case atStart => exact ⟨0, Nat.zero_le _, rfl, fun j hj => by omega, hb1⟩
        case round =>
          clear y0 y1 x0 x1 x2 x3 x4 x5 x6 hbz0 hbz1
          clear hb1 hB1
          obtain ⟨k, hk, rfl, hall, hbw⟩ := hrel
          have hall' := Lib.hid hall
          clear hall
          have hB := hb0.trans (hbw.mono hb0.size)
          obtain ⟨⟨y0, y1⟩, x0, x1, x2, x3, x4, x5, x6, hbz0, hbz1⟩ := hK.out wr (hbw)
          by_cases hlt : k < s.orders.length
          · obtain ⟨A', c', hok1, hAb1, d0, d1, hsl⟩ := (hO.out wr hB).order hlt
            cases hwi : within (orderAt s.orders k).lines.length 1 3
            · have hfin := Lib.hid (checkState_many hsh'.out (many_no (.inr (.inr (by
                rw [List.any_eq_true]
                exact ⟨orderAt s.orders k, by rw [orderAt_eq hlt]; exact List.getElem_mem hlt, by rw [hwi]; rfl⟩)))))
              go_wp2_with (go_at_call 45; refine (rWithin _ _ _ _).mono ?_; rintro e w' ⟨rfl, rfl⟩)
              go_ret
              exact ⟨ret_int (by rw [hfin.out]), hB⟩
            · have hwi' := Lib.hid hwi
              go_wp2_with (go_at_call 45; refine (rWithin _ _ _ _).mono ?_; rintro e w' ⟨rfl, rfl⟩)
              go_roundw
              case rel =>
                refine ⟨k + 1, by omega, by go_num, fun j hj => ?_, hbw⟩
                rcases Nat.lt_succ_iff_lt_or_eq.1 hj with h | rfl
                · exact hall'.out j h
                · exact hwi'.out
              case measure => simp [intOf]; omega
          · obtain rfl : k = s.orders.length := by omega
            have hmy := Lib.hid (manyOk_iff.2 ⟨h4, h8, all_of dOrder hall'.out⟩)
            clear hall'
            go_wp2_with fail
            clear y0 y1 x0 x1 x2 x3 x4 x5 x6 hbz0 hbz1
            refine (rFormed _ _ _ p s (hP'.out wr hB) (hV.out wr hB) (checkShelf_zero.1 hsh'.out).1 h4 h8 (many_lines hmy.out)).mono ?_
            rintro e W3 ⟨rfl, hb3⟩
            have hb13 := hbw.trans (hb3.mono hbw.size)
            have hB3 := hb0.trans (hb13.mono hb0.size)
            obtain ⟨⟨y0, y1⟩, x0, x1, x2, x3, x4, x5, x6, hbz0, hbz1⟩ := hK.out W3 (hb13)
            cases hf : formed p s
            · have hfin := Lib.hid (checkState_form hsh'.out hmy.out hf)
              clear hf
              go_wp2_with fail
              go_ret
              exact ⟨ret_int (by rw [hfin.out]), hB3⟩
            · have hsn := Lib.hid (Sane.mk hsh'.out hmy.out hf)
              clear hf
              go_wp2_with fail
              clear y0 y1 x0 x1 x2 x3 x4 x5 x6 hbz0 hbz1
              refine (rSummed _ _ _ p s (hP'.out W3 hB3) (hV.out W3 hB3) hsn.out).mono ?_
              rintro e W4 ⟨rfl, hb4⟩
              have hB4 := hB3.trans (hb4.mono hB3.size)
              cases hq : summed p s
              · have hfin := Lib.hid (checkState_sum hsn.out hq)
                clear hq
                go_wp2_with fail
                go_ret
                exact ⟨ret_int (by rw [hfin.out]), hB4⟩
              · have hfin := Lib.hid (checkState_ok hsn.out hq)
                clear hq
                go_wp2_with fail
                go_ret
                exact ⟨ret_int (by rw [hfin.out]), hB4⟩
      · have hfin := Lib.hid (checkState_many hsh'.out (many_no (.inr (.inl (by omega)))))
        go_wp2_with fail
        go_ret
        exact ⟨ret_int (by rw [hfin.out]), hB1⟩
    · have hfin := Lib.hid (checkState_many hsh'.out (many_no (.inl (by omega))))
      go_wp2_with fail
      go_ret
      exact ⟨ret_int (by rw [hfin.out]), hB1⟩
  · have hne : (checkShelf p s.on != 0) = true := by simpa using hsh
    have hfin := Lib.hid (checkState_shelf hsh)
    clear hsh
    go_wp2_with fail
    go_ret
    exact ⟨ret_int (by rw [hfin.out]), hB1⟩
end Wh
namespace Wh
open Go Go.RowKit Go.Shelf Go.Proofs
attribute [local go_sem] run_indexAt_letter
def freeTo (p : Plan) (s : State) (b : Int) (k : Nat) : Int := (p.bin b.toNat).room - sumTo (fun g => (cell s.on b.toNat g + coming s b g) * intAt p.sizes g) k
theorem freeTo_all (p : Plan) (s : State) (b : Int) : freeTo p s b p.sizes.length = free p s b := rfl
theorem freeTo_succ (p : Plan) (s : State) (b : Int) (k : Nat) : freeTo p s b (k + 1) = freeTo p s b k - (cell s.on b.toNat k + coming s b k) * intAt p.sizes k := by
  unfold freeTo
  simp only [sumTo]
  omega
theorem mul_range {a b : Int} (ha : 0 ≤ a ∧ a ≤ 1800) (hb : 1 ≤ b ∧ b ≤ 9) : 0 ≤ a * b ∧ a * b ≤ 16200 := by
  refine ⟨Int.mul_nonneg ha.1 (by omega), ?_⟩
  calc a * b ≤ a * 9 := Int.mul_le_mul_of_nonneg_left hb.2 ha.1
    _ ≤ 16200 := by omega
theorem part_range {p : Plan} {s : State} (hs : Sane p s) {b : Int} (hb : 0 ≤ b ∧ b < p.bins.length) {k : Nat} (hk : k < p.sizes.length) :
    (0 ≤ cell s.on b.toNat k + coming s b k ∧ cell s.on b.toNat k + coming s b k ≤ 1800) ∧ (0 ≤ (cell s.on b.toNat k + coming s b k) * intAt p.sizes k ∧ (cell s.on b.toNat k + coming s b k) * intAt p.sizes k ≤ 16200) := by
  have h1 := hs.cell (b := b.toNat) (g := k) (by omega) hk
  have h2 := coming_range hs b k
  have h3 : 0 ≤ cell s.on b.toNat k + coming s b k ∧ cell s.on b.toNat k + coming s b k ≤ 1800 := by omega
  exact ⟨h3, mul_range h3 (right_size hs.plan hk)⟩
theorem freeTo_range {p : Plan} {s : State} (hs : Sane p s) {b : Int} (hb : 0 ≤ b ∧ b < p.bins.length) {k : Nat} (hk : k ≤ p.sizes.length) : -48600 ≤ freeTo p s b k ∧ freeTo p s b k ≤ 1000 := by
  have h1 := right_bin hs.plan (b := b.toNat) (by omega)
  have h2 := sumTo_bounds (f := fun g : Nat => (cell s.on b.toNat g + coming s b g) * intAt p.sizes g) (n := k) (m := 16200) fun g hg => (part_range hs hb (by omega)).2
  have hc := hs.counts
  unfold freeTo Plan.bin
  omega

theorem rUsedOf' (w : World) (v vo : Value) (p : Plan) (on : List (List Int)) (b : Int) (hp : PlanV w w.heap.size v p) (ho : SlSl cInt w w.heap.size vo on) (hz : checkShelf p on = 0) (hb : 0 ≤ b ∧ b < p.bins.length) :
    Calls Try.prog 66 #[v, vo, .int .i64 b] w fun e w' => e = .returned (.int .i64 (usedOf p on b.toNat)) ∧ Below w.heap.size w w' := by
  have := rUsedOf w v vo p on b.toNat hp ho hz (by omega)
  rwa [show ((b.toNat : Nat) : Int) = b by omega] at this
set_option maxHeartbeats 2000000 in
theorem sLeft (w : World) (v : Value) (p : Plan) (s : State) (b g : Int) (hv : StateV w w.heap.size v s) (hs : Sane p s) (hb : 0 ≤ b ∧ b < p.bins.length) (hg : 0 ≤ g ∧ g < p.sizes.length) :
    Calls Try.prog 61 #[v, .int .i64 b, .int .i64 g] w fun e w' => e = .returned (.int .i64 (avail s b g)) ∧ Below w.heap.size w w' := by
  have hb1 : 0 ≤ b := hb.1
  have hb2 : b < (s.on.length : Int) := by rw [hs.onLen]; exact hb.2
  have hg1 : 0 ≤ g := hg.1
  have hbl : b.toNat < s.on.length := by omega
  have hgl : g.toNat < (rowAt s.on b.toNat).length := by rw [hs.rowLen (by omega)]; omega
  have hg2 : g < ((rowAt s.on b.toNat).length : Int) := by omega
  have hcr := hs.cell (b := b.toNat) (g := g.toNat) (by omega) (by omega)
  have hbr := bound_range hs b g
  have hsH := Lib.hid hs
  clear hs hb hg
  obtain ⟨A0, c0, A1, c1, A2, c2, A3, c3, A4, c4, A5, c5, A6, c6, rfl, hV, hN, hO, hH, hM, hI, hU, hX, hl0, hl1, hl2, hl3, hl4, hl5, hl6⟩ := openOne hv
  go_enter Try.func61, Try.ntmps61
  go_wp2_with fail
  obtain ⟨W0, hW0, hb0, hsz0, hsz1, hsE, hK⟩ := boxesOne w s A0 c0 A1 c1 A2 c2 A3 c3 A4 c4 A5 c5 A6 c6
  rw [hW0]
  clear hW0
  obtain ⟨Ar, cr, or0, lr0, rr0, hrow⟩ := (hN.out W0 hb0).row hbl
  obtain ⟨or1, lr1, rr1⟩ := hrow.at_.int hgl
  have hcl : intAt (rowAt s.on b.toNat) g.toNat = cell s.on b.toNat g.toNat := rfl
  rw [hcl] at rr1
  clear hcl
  obtain ⟨_, x0, x1, x2, x3, x4, x5, x6, _⟩ := hK.out W0 (Below.refl _ _)
  have q1 := fun o d os => cells_wld (w := W0) (b := w.heap.size) hsz0 o d os
  have q2 := fun o d os => cells_wld (w := W0) (b := ablk A0) lr0 o d os
  have q3 := fun o d os => cells_wld (w := W0) (b := ablk Ar) lr1 o d os
  have hV2 := Lib.hid (fun d os => hV.out _ (hb0.trans ((below_wld W0 d os).mono hb0.size)))
  have hw1 : IntKind.i64.wrap (cell s.on b.toNat g.toNat - bound s b g) = cell s.on b.toNat g.toNat - bound s b g := IntWalk.i64_in _ (by omega)
  go_wp2_with fail
  refine wp_region_wld (by kernel_rfl) (by kernel_rfl) ?_
  repeat (go_big_quiet_step ((go_at_call 98; refine calls_wld (sBound _ _ p s _ _ (hV2.out _ _) hsH.out))))
  refine wpQuiet_nil ?_
  intro W2 hw'
  have hb2 := below_of_cls hw'
  clear hw'
  go_wp2_with fail
  go_ret
  exact ⟨ret_int rfl, hb0.trans (hb2.mono hb0.size)⟩
set_option maxHeartbeats 2000000 in
theorem rAvailOf (w : World) (v : Value) (p : Plan) (s : State) (b g : Int) (hv : StateV w w.heap.size v s) (hs : Sane p s) (hb : 0 ≤ b ∧ b < p.bins.length) (hg : 0 ≤ g ∧ g < p.sizes.length) :
    Calls Try.prog 29 #[v, .int .i64 b, .int .i64 g] w fun e w' => e = .returned (.int .i64 (avail s b g)) ∧ Below w.heap.size w w' := by
  have hb1 : 0 ≤ b := hb.1
  have hb2 : b < (s.on.length : Int) := by rw [hs.onLen]; exact hb.2
  have hg1 : 0 ≤ g := hg.1
  have hbl : b.toNat < s.on.length := by omega
  have hgl : g.toNat < (rowAt s.on b.toNat).length := by rw [hs.rowLen (by omega)]; omega
  have hg2 : g < ((rowAt s.on b.toNat).length : Int) := by omega
  have hcr := hs.cell (b := b.toNat) (g := g.toNat) (by omega) (by omega)
  have hbr := bound_range hs b g
  have hsH := Lib.hid hs
  clear hs hb hg
  obtain ⟨A0, c0, A1, c1, A2, c2, A3, c3, A4, c4, A5, c5, A6, c6, rfl, hV, hN, hO, hH, hM, hI, hU, hX, hl0, hl1, hl2, hl3, hl4, hl5, hl6⟩ := openOne hv
  go_enter Try.func29, Try.ntmps29
  go_wp2_with fail
  obtain ⟨W0, hW0, hb0, hsz0, hsz1, hsE, hK⟩ := boxesOne w s A0 c0 A1 c1 A2 c2 A3 c3 A4 c4 A5 c5 A6 c6
  rw [hW0]
  clear hW0
  obtain ⟨Ar, cr, or0, lr0, rr0, hrow⟩ := (hN.out W0 hb0).row hbl
  obtain ⟨or1, lr1, rr1⟩ := hrow.at_.int hgl
  have hcl : intAt (rowAt s.on b.toNat) g.toNat = cell s.on b.toNat g.toNat := rfl
  rw [hcl] at rr1
  clear hcl
  obtain ⟨_, x0, x1, x2, x3, x4, x5, x6, _⟩ := hK.out W0 (Below.refl _ _)
  have q1 := fun o d os => cells_wld (w := W0) (b := w.heap.size) hsz0 o d os
  have q2 := fun o d os => cells_wld (w := W0) (b := ablk A0) lr0 o d os
  have q3 := fun o d os => cells_wld (w := W0) (b := ablk Ar) lr1 o d os
  have hV2 := Lib.hid (fun d os => hV.out _ (hb0.trans ((below_wld W0 d os).mono hb0.size)))
  have hw1 : IntKind.i64.wrap (cell s.on b.toNat g.toNat - bound s b g) = cell s.on b.toNat g.toNat - bound s b g := IntWalk.i64_in _ (by omega)
  go_wp2_with fail
  refine wp_region_wld (by kernel_rfl) (by kernel_rfl) ?_
  repeat (go_big_quiet_step ((go_at_call 65; refine calls_wld (rBound _ _ p s _ _ (hV2.out _ _) hsH.out))))
  refine wpQuiet_nil ?_
  intro W2 hw'
  have hb2 := below_of_cls hw'
  clear hw'
  go_wp2_with fail
  go_ret
  exact ⟨ret_int rfl, hb0.trans (hb2.mono hb0.size)⟩

set_option maxHeartbeats 4000000 in
set_option maxRecDepth 100000 in
theorem sRoom (w : World) (v vs : Value) (p : Plan) (s : State) (b : Int) (hp : PlanV w w.heap.size v p) (hv : StateV w w.heap.size vs s) (hs : Sane p s) (hb : 0 ≤ b ∧ b < p.bins.length) :
    Calls Try.prog 62 #[v, vs, .int .i64 b] w fun e w' => e = .returned (.int .i64 (free p s b)) ∧ Below w.heap.size w w' := by
  have hbb := Lib.hid hb
  have hb1 : 0 ≤ b := hb.1
  have hb2 : b < (s.on.length : Int) := by rw [hs.onLen]; exact hb.2
  have hb3 : b < (p.bins.length : Int) := hb.2
  have hbl : b.toNat < s.on.length := by omega
  have hbl' : b.toNat < p.bins.length := by omega
  have hcnt := hs.counts
  have hsH := Lib.hid hs
  clear hs hb
  obtain ⟨Ab, cb, As, cs, rfl, hP', hBn, hSz, hlb, hls⟩ := openPl hp
  obtain ⟨A0, c0, A1, c1, A2, c2, A3, c3, A4, c4, A5, c5, A6, c6, rfl, hV, hN, hO, hH, hM, hI, hU, hX, hl0, hl1, hl2, hl3, hl4, hl5, hl6⟩ := openOne hv
  obtain ⟨ok0, lk0, k0, k1, k2, k3⟩ := (hBn.out w (Below.refl _ _)).at_.bin hbl'
  go_enter Try.func62, Try.ntmps62
  go_wp2_with fail
  obtain ⟨W0, hW0, hb0, hsz0, hsz1, hsE, hK⟩ := boxesTwo w p s Ab cb As cs A0 c0 A1 c1 A2 c2 A3 c3 A4 c4 A5 c5 A6 c6
  rw [hW0]
  clear hW0
  obtain ⟨⟨y0, y1⟩, x0, x1, x2, x3, x4, x5, x6, hbz0, hbz1⟩ := hK.out W0 (Below.refl W0.heap.size W0)
  clear k0 k1 k2 k3
  go_loopw [7, 19, 8, 9] (fun n i _ _ wr => ∃ k : Nat, k ≤ p.sizes.length ∧ i = .int .i64 k ∧ n = .int .i64 (freeTo p s b k) ∧ Below W0.heap.size W0 wr) (fun _ i _ _ _ => p.sizes.length - (intOf i).toNat)
  case atStart => exact ⟨0, Nat.zero_le _, rfl, by unfold freeTo Plan.bin; simp [sumTo], Below.refl _ _⟩
  case round =>
    clear y0 y1 x0 x1 x2 x3 x4 x5 x6 hbz0 hbz1
    obtain ⟨k, hk, rfl, rfl, hbw⟩ := hrel
    have hB := hb0.trans (hbw.mono hb0.size)
    obtain ⟨t1, t2⟩ := freeTo_range hsH.out hbb.out hk
    obtain ⟨⟨y0, y1⟩, x0, x1, x2, x3, x4, x5, x6, hbz0, hbz1⟩ := hK.out wr (hbw)
    by_cases hlt : k < p.sizes.length
    · have hgl : k < (rowAt s.on b.toNat).length := by rw [hsH.out.rowLen hbl']; exact hlt
      obtain ⟨Ar, cr, or0, lr0, rr0, hrow⟩ := (hN.out wr hB).row hbl
      obtain ⟨or1, lr1, rr1⟩ := hrow.at_.int hgl
      obtain ⟨os0, ls0, rs0⟩ := (hSz.out wr hB).at_.int hlt
      have hcl : intAt (rowAt s.on b.toNat) k = cell s.on b.toNat k := rfl
      rw [hcl] at rr1
      clear hcl
      obtain ⟨⟨m1, m2⟩, m3, m4⟩ := part_range hsH.out hbb.out hlt
      have q1 := fun o d os => cells_wld (w := wr) (b := w.heap.size + 1) hbz0 o d os
      have q2 := fun o d os => cells_wld (w := wr) (b := ablk A0) lr0 o d os
      have q3 := fun o d os => cells_wld (w := wr) (b := ablk Ar) lr1 o d os
      have hV2 := Lib.hid (fun d os => hV.out _ (hB.trans ((below_wld wr d os).mono hB.size)))
      have hsu := Lib.hid (freeTo_succ p s b k)
      have hw1 : IntKind.i64.wrap (cell s.on b.toNat k + coming s b k) = cell s.on b.toNat k + coming s b k := IntWalk.i64_in _ (by omega)
      have hw2 : IntKind.i64.wrap ((cell s.on b.toNat k + coming s b k) * intAt p.sizes k) = (cell s.on b.toNat k + coming s b k) * intAt p.sizes k := IntWalk.i64_in _ (by omega)
      have hw3 : IntKind.i64.wrap (freeTo p s b k - (cell s.on b.toNat k + coming s b k) * intAt p.sizes k) = freeTo p s b k - (cell s.on b.toNat k + coming s b k) * intAt p.sizes k := IntWalk.i64_in _ (by omega)
      go_wp2_with fail
      refine wp_region_wld (by kernel_rfl) (by kernel_rfl) ?_
      repeat (go_big_quiet_step ((go_at_call 69; refine calls_wld (sComing _ _ p s _ _ (hV2.out _ _) hsH.out))))
      refine wpQuiet_nil ?_
      intro W2 hw'
      have hb2 := below_of_cls hw'
      clear hw'
      clear q1 q2 q3 hw1 hw2 hw3
      go_wp2_with fail
      go_roundw
      case rel => exact ⟨k + 1, by omega, by go_num, by rw [hsu.out], hbw.trans (hb2.mono hbw.size)⟩
      case measure => simp [intOf]; omega
    · obtain rfl : k = p.sizes.length := by omega
      go_wp2_with fail
      go_ret
      exact ⟨ret_int (freeTo_all _ _ _), hB⟩

def freeTo2 (p : Plan) (s : State) (b : Int) (k : Nat) : Int := (p.bin b.toNat).room - usedOf p s.on b.toNat - sumTo (fun g => coming s b g * intAt p.sizes g) k
theorem freeTo2_succ (p : Plan) (s : State) (b : Int) (k : Nat) : freeTo2 p s b (k + 1) = freeTo2 p s b k - coming s b k * intAt p.sizes k := by
  unfold freeTo2
  simp only [sumTo]
  omega
theorem sumTo_add (f g : Nat → Int) (n : Nat) : sumTo (fun k => f k + g k) n = sumTo f n + sumTo g n := by
  induction n with
  | zero => rfl
  | succ n ih => simp only [sumTo]; rw [ih]; omega
theorem freeTo2_all (p : Plan) (s : State) (b : Int) : freeTo2 p s b p.sizes.length = free p s b := by
  unfold freeTo2 free usedOf
  have : sumTo (fun g => (cell s.on b.toNat g + coming s b g) * intAt p.sizes g) p.sizes.length = sumTo (fun g => cell s.on b.toNat g * intAt p.sizes g) p.sizes.length + sumTo (fun g => coming s b g * intAt p.sizes g) p.sizes.length := by
    rw [← sumTo_add]
    exact sumTo_congr fun k _ => Int.add_mul _ _ _
  rw [this]
  omega
theorem come_range {p : Plan} {s : State} (hs : Sane p s) (b : Int) {k : Nat} (hk : k < p.sizes.length) : 0 ≤ coming s b k * intAt p.sizes k ∧ coming s b k * intAt p.sizes k ≤ 16200 := by
  have h2 := coming_range hs b k
  exact mul_range (by omega) (right_size hs.plan hk)
theorem used_most {p : Plan} {s : State} (hs : Sane p s) {b : Nat} (hb : b < p.bins.length) : 0 ≤ usedOf p s.on b ∧ usedOf p s.on b ≤ 5400 := by
  have hc := hs.counts
  have := used_range hs.shelf (b := b) (by rw [hs.onLen]; exact hb) (Nat.le_refl p.sizes.length)
  unfold usedOf
  omega
theorem freeTo2_range {p : Plan} {s : State} (hs : Sane p s) {b : Int} (hb : 0 ≤ b ∧ b < p.bins.length) {k : Nat} (hk : k ≤ p.sizes.length) : -60000 ≤ freeTo2 p s b k ∧ freeTo2 p s b k ≤ 1000 := by
  have h1 := right_bin hs.plan (b := b.toNat) (by omega)
  have h2 := sumTo_bounds (f := fun g : Nat => coming s b g * intAt p.sizes g) (n := k) (m := 16200) fun g hg => come_range hs b (by omega)
  have h3 := used_most hs (b := b.toNat) (by omega)
  have hc := hs.counts
  unfold freeTo2 Plan.bin
  omega

set_option maxHeartbeats 4000000 in
set_option maxRecDepth 100000 in
theorem rFreeOf (w : World) (v vs : Value) (p : Plan) (s : State) (b : Int) (hp : PlanV w w.heap.size v p) (hv : StateV w w.heap.size vs s) (hs : Sane p s) (hb : 0 ≤ b ∧ b < p.bins.length) :
    Calls Try.prog 30 #[v, vs, .int .i64 b] w fun e w' => e = .returned (.int .i64 (free p s b)) ∧ Below w.heap.size w w' := by
  have hbb := Lib.hid hb
  have hb1 : 0 ≤ b := hb.1
  have hb3 : b < (p.bins.length : Int) := hb.2
  have hbl' : b.toNat < p.bins.length := by omega
  have hcnt := hs.counts
  obtain ⟨⟨rm1, rm2⟩, _⟩ := right_bin hs.plan hbl'
  obtain ⟨us1, us2⟩ := used_most hs hbl'
  have hsH := Lib.hid hs
  clear hs hb
  obtain ⟨Ab, cb, As, cs, rfl, hP', hBn, hSz, hlb, hls⟩ := openPl hp
  obtain ⟨A0, c0, A1, c1, A2, c2, A3, c3, A4, c4, A5, c5, A6, c6, rfl, hV, hN, hO, hH, hM, hI, hU, hX, hl0, hl1, hl2, hl3, hl4, hl5, hl6⟩ := openOne hv
  go_enter Try.func30, Try.ntmps30
  go_wp2_with fail
  obtain ⟨W0, hW0, hb0, hsz0, hsz1, hsE, hK⟩ := boxesTwo w p s Ab cb As cs A0 c0 A1 c1 A2 c2 A3 c3 A4 c4 A5 c5 A6 c6
  rw [hW0]
  clear hW0
  obtain ⟨⟨y0, y1⟩, x0, x1, x2, x3, x4, x5, x6, hbz0, hbz1⟩ := hK.out W0 (Below.refl W0.heap.size W0)
  obtain ⟨ok0, lk0, k0, k1, k2, k3⟩ := (hBn.out W0 hb0).at_.bin hbl'
  clear k0 k2 k3
  have q1 := fun o d os => cells_wld (w := W0) (b := w.heap.size) hbz1 o d os
  have q2 := fun o d os => cells_wld (w := W0) (b := w.heap.size + 1) hbz0 o d os
  have q3 := fun o d os => cells_wld (w := W0) (b := ablk Ab) lk0 o d os
  have hP2 := Lib.hid (fun d os => hP'.out _ (hb0.trans ((below_wld W0 d os).mono hb0.size)))
  have hN2 := Lib.hid (fun d os => hN.out _ (hb0.trans ((below_wld W0 d os).mono hb0.size)))
  have hw1 : IntKind.i64.wrap ((binAt p.bins b.toNat).room - usedOf p s.on b.toNat) = (binAt p.bins b.toNat).room - usedOf p s.on b.toNat := IntWalk.i64_in _ (by omega)
  go_wp2_with fail
  refine wp_region_wld (by kernel_rfl) (by kernel_rfl) ?_
  repeat (go_big_quiet_step ((go_at_call 66; refine calls_wld (rUsedOf' _ _ _ p s.on b (hP2.out _ _) (hN2.out _ _) hsH.out.shelf hbb.out))))
  refine wpQuiet_nil ?_
  intro W9 hw'
  have hb9 := below_of_cls hw'
  clear hw'
  clear q1 q2 q3 hw1
  clear y0 y1 x0 x1 x2 x3 x4 x5 x6 hbz0 hbz1
  obtain ⟨⟨y0, y1⟩, x0, x1, x2, x3, x4, x5, x6, hbz0, hbz1⟩ := hK.out W9 (hb9)
  go_wp2_with fail
  go_loopw [7, 8] (fun n i wr => ∃ k : Nat, k ≤ p.sizes.length ∧ i = .int .i64 k ∧ n = .int .i64 (freeTo2 p s b k) ∧ Below W0.heap.size W0 wr) (fun _ i _ => p.sizes.length - (intOf i).toNat)
  case atStart => exact ⟨0, Nat.zero_le _, rfl, by unfold freeTo2 Plan.bin; simp [sumTo], hb9⟩
  case round =>
    clear y0 y1 x0 x1 x2 x3 x4 x5 x6 hbz0 hbz1
    clear k1
    obtain ⟨k, hk, rfl, rfl, hbw⟩ := hrel
    have hB := hb0.trans (hbw.mono hb0.size)
    obtain ⟨t1, t2⟩ := freeTo2_range hsH.out hbb.out hk
    obtain ⟨⟨y0, y1⟩, x0, x1, x2, x3, x4, x5, x6, hbz0, hbz1⟩ := hK.out wr (hbw)
    by_cases hlt : k < p.sizes.length
    · obtain ⟨os0, ls0, rs0⟩ := (hSz.out wr hB).at_.int hlt
      obtain ⟨m3, m4⟩ := come_range hsH.out b hlt
      have q0 := fun o d os => cells_wld (w := wr) (b := w.heap.size) hbz1 o d os
      have q1 := fun o d os => cells_wld (w := wr) (b := w.heap.size + 1) hbz0 o d os
      have q2 := fun o d os => cells_wld (w := wr) (b := ablk As) ls0 o d os
      have hV2 := Lib.hid (fun d os => hV.out _ (hB.trans ((below_wld wr d os).mono hB.size)))
      have hsu := Lib.hid (freeTo2_succ p s b k)
      have hw2 : IntKind.i64.wrap (coming s b k * intAt p.sizes k) = coming s b k * intAt p.sizes k := IntWalk.i64_in _ (by omega)
      have hw3 : IntKind.i64.wrap (freeTo2 p s b k - coming s b k * intAt p.sizes k) = freeTo2 p s b k - coming s b k * intAt p.sizes k := IntWalk.i64_in _ (by omega)
      go_wp2_with fail
      refine wp_region_wld (by kernel_rfl) (by kernel_rfl) ?_
      repeat (go_big_quiet_step ((go_at_call 67; refine calls_wld (rComing _ _ p s _ _ (hV2.out _ _) hsH.out))))
      refine wpQuiet_nil ?_
      intro W2 hw'
      have hb2 := below_of_cls hw'
      clear hw'
      clear q0 q1 q2 hw2 hw3
      go_wp2_with fail
      go_roundw
      case rel => exact ⟨k + 1, by omega, by go_num, by rw [hsu.out], hbw.trans (hb2.mono hbw.size)⟩
      case measure => simp [intOf]; omega
    · obtain rfl : k = p.sizes.length := by omega
      go_wp2_with fail
      go_ret
      exact ⟨ret_int (freeTo2_all _ _ _), hB⟩

theorem availE_bad {p : Plan} {s : State} {b g : Int} (h : checkState p s ≠ 0) : availE p s b g = (0, checkState p s) := by unfold availE; rw [if_pos h]
theorem availE_no {p : Plan} {s : State} {b g : Int} (h : checkState p s = 0) (h2 : (isBin p b && isGood p g) = false) : availE p s b g = (0, 3) := by
  unfold availE
  rw [if_neg (fun hn => hn h), h2]; rfl
theorem availE_yes {p : Plan} {s : State} {b g : Int} (h : checkState p s = 0) (h2 : (isBin p b && isGood p g) = true) : availE p s b g = (avail s b g, 0) := by
  unfold availE
  rw [if_neg (fun hn => hn h), h2]; rfl
theorem freeE_bad {p : Plan} {s : State} {b : Int} (h : checkState p s ≠ 0) : freeE p s b = (0, checkState p s) := by unfold freeE; rw [if_pos h]
theorem freeE_no {p : Plan} {s : State} {b : Int} (h : checkState p s = 0) (h2 : isBin p b = false) : freeE p s b = (0, 3) := by
  unfold freeE
  rw [if_neg (fun hn => hn h), h2]; rfl
theorem freeE_yes {p : Plan} {s : State} {b : Int} (h : checkState p s = 0) (h2 : isBin p b = true) : freeE p s b = (free p s b, 0) := by
  unfold freeE
  rw [if_neg (fun hn => hn h), h2]; rfl
theorem good0 {p : Plan} {s : State} (h : checkState p s = 0) (b : Int) : (isBin p b && isGood p 0) = isBin p b := by
  have hc := (checkState_zero.1 h).1.counts
  rw [show isGood p 0 = true from isGood_iff.2 (by omega), Bool.and_true]

set_option maxHeartbeats 2000000 in
theorem sAvail (w : World) (v vs : Value) (p : Plan) (s : State) (b g : Int) (hp : PlanV w w.heap.size v p) (hv : StateV w w.heap.size vs s) :
    Calls Try.prog 26 #[v, vs, .int .i64 b, .int .i64 g] w fun e w' => e = .returned (.tuple #[.int .i64 (availE p s b g).1, .int .i64 (availE p s b g).2]) ∧ Below w.heap.size w w' := by
  obtain ⟨Ab, cb, As, cs, rfl, hP', hBn, hSz, hlb, hls⟩ := openPl hp
  obtain ⟨A0, c0, A1, c1, A2, c2, A3, c3, A4, c4, A5, c5, A6, c6, rfl, hV, hN, hO, hH, hM, hI, hU, hX, hl0, hl1, hl2, hl3, hl4, hl5, hl6⟩ := openOne hv
  go_enter Try.func26, Try.ntmps26
  go_wp2_with fail
  obtain ⟨W0, hW0, hb0, hsz0, hsz1, hsE, hK⟩ := boxesTwo w p s Ab cb As cs A0 c0 A1 c1 A2 c2 A3 c3 A4 c4 A5 c5 A6 c6
  rw [hW0]
  clear hW0
  obtain ⟨⟨y0, y1⟩, x0, x1, x2, x3, x4, x5, x6, hbz0, hbz1⟩ := hK.out W0 (Below.refl W0.heap.size W0)
  go_wp2_with fail
  clear y0 y1 x0 x1 x2 x3 x4 x5 x6 hbz0 hbz1
  refine (sCheck _ _ _ p s (hP'.out _ hb0) (hV.out _ hb0)).mono ?_
  rintro e W1 ⟨rfl, hb1⟩
  have hB1 := hb0.trans (hb1.mono hb0.size)
  obtain ⟨⟨y0, y1⟩, x0, x1, x2, x3, x4, x5, x6, hbz0, hbz1⟩ := hK.out W1 (hb1)
  by_cases hc : checkState p s = 0
  · have hc' := Lib.hid hc
    rw [hc]
    clear hc
    go_wp2_with fail
    clear y0 y1 x0 x1 x2 x3 x4 x5 x6 hbz0 hbz1
    refine (shThere _ _ p b g (hP'.out _ hB1)).mono ?_
    rintro e W2 ⟨rfl, hb2⟩
    have hb12 := hb1.trans (hb2.mono hb1.size)
    have hB2 := hb0.trans (hb12.mono hb0.size)
    obtain ⟨⟨y0, y1⟩, x0, x1, x2, x3, x4, x5, x6, hbz0, hbz1⟩ := hK.out W2 (hb12)
    cases hth : (isBin p b && isGood p g)
    · have hfin := Lib.hid (availE_no hc'.out hth)
      clear hth
      go_wp2_with fail
      go_ret2
      exact ⟨ret2 (by rw [hfin.out] <;> rfl) (by rw [hfin.out] <;> rfl), hB2⟩
    · have hfin := Lib.hid (availE_yes hc'.out hth)
      rw [Bool.and_eq_true] at hth
      have hbb := Lib.hid (isBin_iff.1 hth.1)
      have hgg := Lib.hid (isGood_iff.1 hth.2)
      clear hth
      go_wp2_with fail
      clear y0 y1 x0 x1 x2 x3 x4 x5 x6 hbz0 hbz1
      refine (sLeft _ _ p s b g (hV.out _ hB2) (checkState_zero.1 hc'.out).1 hbb.out hgg.out).mono ?_
      rintro e W3 ⟨rfl, hb3⟩
      go_wp2_with fail
      go_ret2
      exact ⟨ret2 (by rw [hfin.out] <;> rfl) (by rw [hfin.out] <;> rfl), hB2.trans (hb3.mono hB2.size)⟩
  · have hne : (checkState p s != 0) = true := by simpa using hc
    have hfin := Lib.hid (availE_bad (b := b) (g := g) hc)
    clear hc
    go_wp2_with fail
    go_ret2
    exact ⟨ret2 (by rw [hfin.out] <;> rfl) (by rw [hfin.out] <;> rfl), hB1⟩

set_option maxHeartbeats 2000000 in
theorem sFree (w : World) (v vs : Value) (p : Plan) (s : State) (b : Int) (hp : PlanV w w.heap.size v p) (hv : StateV w w.heap.size vs s) :
    Calls Try.prog 27 #[v, vs, .int .i64 b] w fun e w' => e = .returned (.tuple #[.int .i64 (freeE p s b).1, .int .i64 (freeE p s b).2]) ∧ Below w.heap.size w w' := by
  obtain ⟨Ab, cb, As, cs, rfl, hP', hBn, hSz, hlb, hls⟩ := openPl hp
  obtain ⟨A0, c0, A1, c1, A2, c2, A3, c3, A4, c4, A5, c5, A6, c6, rfl, hV, hN, hO, hH, hM, hI, hU, hX, hl0, hl1, hl2, hl3, hl4, hl5, hl6⟩ := openOne hv
  go_enter Try.func27, Try.ntmps27
  go_wp2_with fail
  obtain ⟨W0, hW0, hb0, hsz0, hsz1, hsE, hK⟩ := boxesTwo w p s Ab cb As cs A0 c0 A1 c1 A2 c2 A3 c3 A4 c4 A5 c5 A6 c6
  rw [hW0]
  clear hW0
  obtain ⟨⟨y0, y1⟩, x0, x1, x2, x3, x4, x5, x6, hbz0, hbz1⟩ := hK.out W0 (Below.refl W0.heap.size W0)
  go_wp2_with fail
  clear y0 y1 x0 x1 x2 x3 x4 x5 x6 hbz0 hbz1
  refine (sCheck _ _ _ p s (hP'.out _ hb0) (hV.out _ hb0)).mono ?_
  rintro e W1 ⟨rfl, hb1⟩
  have hB1 := hb0.trans (hb1.mono hb0.size)
  obtain ⟨⟨y0, y1⟩, x0, x1, x2, x3, x4, x5, x6, hbz0, hbz1⟩ := hK.out W1 (hb1)
  by_cases hc : checkState p s = 0
  · have hc' := Lib.hid hc
    rw [hc]
    clear hc
    go_wp2_with fail
    clear y0 y1 x0 x1 x2 x3 x4 x5 x6 hbz0 hbz1
    refine (shThere _ _ p b 0 (hP'.out _ hB1)).mono ?_
    rintro e W2 ⟨rfl, hb2⟩
    rw [good0 hc'.out]
    have hb12 := hb1.trans (hb2.mono hb1.size)
    have hB2 := hb0.trans (hb12.mono hb0.size)
    obtain ⟨⟨y0, y1⟩, x0, x1, x2, x3, x4, x5, x6, hbz0, hbz1⟩ := hK.out W2 (hb12)
    cases hth : isBin p b
    · have hfin := Lib.hid (freeE_no hc'.out hth)
      clear hth
      go_wp2_with fail
      go_ret2
      exact ⟨ret2 (by rw [hfin.out] <;> rfl) (by rw [hfin.out] <;> rfl), hB2⟩
    · have hfin := Lib.hid (freeE_yes hc'.out hth)
      have hbb := Lib.hid (isBin_iff.1 hth)
      clear hth
      go_wp2_with fail
      clear y0 y1 x0 x1 x2 x3 x4 x5 x6 hbz0 hbz1
      refine (sRoom _ _ _ p s b (hP'.out _ hB2) (hV.out _ hB2) (checkState_zero.1 hc'.out).1 hbb.out).mono ?_
      rintro e W3 ⟨rfl, hb3⟩
      go_wp2_with fail
      go_ret2
      exact ⟨ret2 (by rw [hfin.out] <;> rfl) (by rw [hfin.out] <;> rfl), hB2.trans (hb3.mono hB2.size)⟩
  · have hne : (checkState p s != 0) = true := by simpa using hc
    have hfin := Lib.hid (freeE_bad (b := b) hc)
    clear hc
    go_wp2_with fail
    go_ret2
    exact ⟨ret2 (by rw [hfin.out] <;> rfl) (by rw [hfin.out] <;> rfl), hB1⟩
end Wh
namespace Wh
open Go Go.RowKit Go.Shelf Go.Proofs
attribute [local go_sem] run_indexAt_letter evL_tmp evL_const evL_func
def nilSV : SV := ⟨nilV, nilV, nilV, nilV, nilV, nilV, nilV, [], []⟩
theorem OwnSt.zero (w : World) (base : Nat) : OwnSt w base nilSV dState :=
  ⟨Own.nil, rfl, (fun b h => by cases h), Own.nil, rfl, (fun o h => by cases h), Own.nil, Own.nil, Own.nil, Own.nil, Own.nil, by unfold apartL nilSV; simp [nilV, Value.ownBlock], List.Pairwise.nil⟩
theorem newBox (W : World) : BoxAt (W.alloc (.cells #[.slice none 0 0, .slice none 0 0, .slice none 0 0, .slice none 0 0, .slice none 0 0, .slice none 0 0, .slice none 0 0] 31)) W.heap.size nilSV := Blk.new _ _ _
theorem newBelow {W w3 : World} {o : Obj} (hg : (W.alloc o).grownBy w3 (some W.heap.size)) : Below W.heap.size W w3 := ((Below.refl _ _).alloc (Nat.le_refl _) _).grown hg (by simp) (fun k hk => by injection hk with hk; omega)
/-- A row more. -/
theorem OwnSt.pushRow {w : World} {base : Nat} {V : SV} {s : State} {w1 w2 : World} (h : OwnSt w base V s) (hb : Below w.heap.size w w1) {u : Value} {x : List Int} (hu : Own cInt 1 3 w1 base u x) (hf : ∀ g, u.ownBlock = some g → w.heap.size ≤ g) (hg : w1.grownBy w2 V.on.ownBlock)
    {v' : Value} (hv : Own (fun u : Value => [u]) 1 23 w2 base v' (V.rows ++ [u])) : OwnSt w2 base { V with on := v', rows := V.rows ++ [u] } { s with on := s.on ++ [x] } := by
  have k := h.below hb
  have hlt : ∀ a, a ∈ V.rows ++ [V.inn, V.out, V.fixed] → ∀ g, a.ownBlock = some g → g < w.heap.size := by
    intro a ha g hg
    rcases List.mem_append.1 ha with ha | ha
    · obtain ⟨i, hi, rfl⟩ := List.getElem_of_mem ha
      have hil : i < s.on.length := by rw [← h.rlen]; exact hi
      have e1 : V.row i = V.rows[i] := by unfold SV.row; simp [hi]
      exact ((h.row i hil).size g (by rw [e1]; exact hg)).2
    · simp only [List.mem_cons, List.not_mem_nil, or_false] at ha
      rcases ha with rfl | rfl | rfl
      · exact (h.inn.size g hg).2
      · exact (h.out.size g hg).2
      · exact (h.fixed.size g hg).2
  refine ⟨hv, by simp [h.rlen], fun b hlt => ?_, k.orders.kept hg (k.orders.apart k.on (by decide)), k.llen, fun o ho => (k.line o ho).kept hg ((k.line o ho).apart k.on (by decide)),
    k.holds.kept hg (k.holds.apart k.on (by decide)), k.moves.kept hg (k.moves.apart k.on (by decide)), k.inn.kept hg (k.inn.apart k.on (by decide)), k.out.kept hg (k.out.apart k.on (by decide)), k.fixed.kept hg (k.fixed.apart k.on (by decide)), ?_, k.apartl⟩
  · have hb' : b < s.on.length + 1 := by simpa using hlt
    by_cases hlt : b < s.on.length
    · have e1 : SV.row { V with on := v', rows := V.rows ++ [u] } b = V.row b := by
        unfold SV.row
        simp [List.getD_eq_getElem?_getD, List.getElem?_append_left (show b < V.rows.length by rw [h.rlen]; exact hlt)]
      have e2 : rowAt (s.on ++ [x]) b = rowAt s.on b := by
        unfold rowAt
        simp [List.getD_eq_getElem?_getD, List.getElem?_append_left hlt]
      rw [e1]
      show Own cInt 1 3 w2 base (V.row b) (rowAt (s.on ++ [x]) b)
      rw [e2]
      exact (k.row b hlt).kept hg ((k.row b hlt).apart k.on (by decide))
    · have hb2 : b = s.on.length := by omega
      have e1 : SV.row { V with on := v', rows := V.rows ++ [u] } b = u := by
        unfold SV.row
        rw [hb2, ← h.rlen]
        simp
      have e2 : rowAt (s.on ++ [x]) b = x := by
        unfold rowAt
        rw [hb2]
        simp
      rw [e1]
      show Own cInt 1 3 w2 base u (rowAt (s.on ++ [x]) b)
      rw [e2]
      exact hu.kept hg (hu.apart k.on (by decide))
  · show apartL (V.rows ++ [u] ++ [V.inn, V.out, V.fixed])
    have ha := h.apart
    unfold apartL at ha ⊢
    obtain ⟨p1, p2, p3⟩ := List.pairwise_append.1 ha
    rw [List.append_assoc, List.pairwise_append]
    refine ⟨p1, List.pairwise_cons.2 ⟨fun b hb g hg he => ?_, p2⟩, fun a ha b hb g hg he => ?_⟩
    · have h1 := hlt b (List.mem_append_right _ hb) g he
      have h2 := hf g hg
      omega
    · rcases List.mem_append.1 hb with hb | hb
      · obtain rfl := List.mem_singleton.1 hb
        have h1 := hlt a (List.mem_append_left _ ha) g hg
        have h2 := hf g he
        omega
      · exact p3 a ha b hb g hg he

theorem OwnSt.one {w : World} {base : Nat} {V : SV} {s : State} (h : OwnSt w base V s) : V.cells.all (fun u => u.oneCell') = true := by
  simp [SV.cells, own_one h.on, own_one h.orders, own_one h.holds, own_one h.moves, own_one h.inn, own_one h.out, own_one h.fixed]
theorem made_cells (n : Nat) : (madeCells #[Value.int .i64 0] n).toList = (List.replicate n (0 : Int)).flatMap cInt := by
  induction n with
  | zero => simp [madeCells]
  | succ n ih =>
    rw [List.replicate_succ', List.flatMap_append, ← ih]
    unfold madeCells
    rw [Array.range_succ]
    simp [cInt, Nat.mod_one]
theorem Own.made_zeros (w : World) (n : Nat) (hn : n ≤ 1000) : Own cInt 1 3 (w.alloc (.cells (madeCells #[Value.int .i64 0] n) 3)) w.heap.size (.slice (some ⟨w.heap.size, 0, none⟩) n n) (List.replicate n 0) := by
  have := Own.lit (base := w.heap.size) (enc := cInt) (size := 1) w 3 (madeCells #[Value.int .i64 0] n) (List.replicate n 0) (Nat.le_refl _) (by simp; omega) (fun _ => rfl) (made_cells n)
  simpa using this
theorem sNone (w : World) (B n cs : Nat) (As : Option Addr) (h1 : w.cell? ⟨B, 1, none⟩ = some (.slice As n cs)) (hn : n ≤ 1000) :
    Calls Try.prog 53 #[.pointer (some ⟨B, 0, none⟩)] w fun e w' => ∃ A c, e = .returned (.slice A n c) ∧ Own cInt 1 3 w' w.heap.size (.slice A n c) (List.replicate n 0) ∧ Below w.heap.size w w' := by
  have hmk := run_make_row' (P := Try.prog) 23 3 (.int .i64 0) 8 Try.underlying23 (by kernel_rfl) rfl .i64 .i64 n (by omega) (by omega)
  go_enter Try.func53, Try.ntmps53
  go_wp2_with fail
  go_ret
  exact ⟨_, _, rfl, Own.made_zeros w n hn, (Below.refl _ _).alloc (Nat.le_refl _) _⟩

def begunTo (p : Plan) (k : Nat) : State :=
  ⟨List.replicate k (List.replicate p.sizes.length 0), [], [], [], List.replicate p.sizes.length 0, List.replicate p.sizes.length 0, List.replicate p.sizes.length 0⟩
theorem begunTo_succ (p : Plan) (k : Nat) : begunTo p (k + 1) = { begunTo p k with on := (begunTo p k).on ++ [List.replicate p.sizes.length 0] } := by
  unfold begunTo
  simp [List.replicate_succ']
/-- The sums of a state that begins. -/
theorem OwnSt.begun {w : World} {base : Nat} {vi vu vx : Value} {z : List Int} (h1 : Own cInt 1 3 w base vi z) (h2 : Own cInt 1 3 w base vu z) (h3 : Own cInt 1 3 w base vx z)
    (h12 : ∀ g, vi.ownBlock = some g → vu.ownBlock ≠ some g) (h13 : ∀ g, vi.ownBlock = some g → vx.ownBlock ≠ some g) (h23 : ∀ g, vu.ownBlock = some g → vx.ownBlock ≠ some g) :
    OwnSt w base ⟨nilV, nilV, nilV, nilV, vi, vu, vx, [], []⟩ ⟨[], [], [], [], z, z, z⟩ :=
  ⟨Own.nil, rfl, (fun b h => by cases h), Own.nil, rfl, (fun o h => by cases h), Own.nil, Own.nil, h1, h2, h3, by
    unfold apartL
    refine List.pairwise_cons.2 ⟨fun b hb => ?_, List.pairwise_cons.2 ⟨fun b hb => ?_, List.pairwise_singleton _ _⟩⟩
    · simp only [List.mem_cons, List.not_mem_nil, or_false] at hb
      rcases hb with rfl | rfl
      · exact h12
      · exact h13
    · obtain rfl := List.mem_singleton.1 hb
      exact h23, List.Pairwise.nil⟩

set_option maxHeartbeats 4000000 in
set_option maxRecDepth 100000 in
theorem sBegin (w : World) (v : Value) (p : Plan) (hp : PlanV w w.heap.size v p) :
    Calls Try.prog 20 #[v] w fun e w' => ∃ V, e = .returned (.tuple #[V.val, .int .i64 (checkPlan p)]) ∧ OwnSt w' w.heap.size V (if checkPlan p = 0 then begin p else dState) ∧ Below w.heap.size w w' := by
  have hP := hp
  obtain ⟨_, _, rfl, ⟨Ab, cb, rfl, hlb, hb⟩, ⟨As, cs, rfl, hls, hs⟩⟩ := hp
  have hb0 : Below w.heap.size w ((w.alloc (.cells #[.slice Ab p.bins.length cb, .slice As p.sizes.length cs] 25)).alloc (.cells #[.slice none 0 0, .slice none 0 0, .slice none 0 0, .slice none 0 0, .slice none 0 0, .slice none 0 0, .slice none 0 0] 31)) := ((Below.refl _ _).alloc (Nat.le_refl _) _).alloc (by simp) _
  have hsz0 : w.heap.size + 1 < ((w.alloc (.cells #[.slice Ab p.bins.length cb, .slice As p.sizes.length cs] 25)).alloc (.cells #[.slice none 0 0, .slice none 0 0, .slice none 0 0, .slice none 0 0, .slice none 0 0, .slice none 0 0, .slice none 0 0] 31)).heap.size := by simp
  have hk0 : Blk ((w.alloc (.cells #[.slice Ab p.bins.length cb, .slice As p.sizes.length cs] 25)).alloc (.cells #[.slice none 0 0, .slice none 0 0, .slice none 0 0, .slice none 0 0, .slice none 0 0, .slice none 0 0, .slice none 0 0] 31)) w.heap.size 25 [.slice Ab p.bins.length cb, .slice As p.sizes.length cs] := (Blk.new _ _ _).alloc _
  have hk1 : BoxAt ((w.alloc (.cells #[.slice Ab p.bins.length cb, .slice As p.sizes.length cs] 25)).alloc (.cells #[.slice none 0 0, .slice none 0 0, .slice none 0 0, .slice none 0 0, .slice none 0 0, .slice none 0 0, .slice none 0 0] 31)) (w.heap.size + 1) nilSV := by
    have := Blk.new (w.alloc (.cells #[.slice Ab p.bins.length cb, .slice As p.sizes.length cs] 25)) 31 #[.slice none 0 0, .slice none 0 0, .slice none 0 0, .slice none 0 0, .slice none 0 0, .slice none 0 0, .slice none 0 0]
    rw [World.size_alloc] at this
    exact this
  have hP' := Lib.hid (fun W (hW : Below w.heap.size w W) => hP.up hW hW.size)
  clear hb hs hP
  go_enter Try.func20, Try.ntmps20
  go_wp2_with fail
  generalize hW0 : (w.alloc (.cells #[.slice Ab p.bins.length cb, .slice As p.sizes.length cs] 25)).alloc _ = W0 at hb0 hsz0 hk0 hk1 ⊢
  clear hW0
  have hk0' := Lib.hid hk0
  have hk1' := Lib.hid hk1
  clear hk0 hk1
  refine (planCheck _ _ p (hP'.out _ hb0)).mono ?_
  rintro e W1 ⟨rfl, hb1⟩
  have hB1 := hb0.trans (hb1.mono hb0.size)
  have hz1 := Nat.lt_of_lt_of_le hsz0 hb1.size
  have hx1 := hk1'.out.below hb1 hsz0
  by_cases hz : checkPlan p = 0
  · obtain ⟨_, hc6, _, hc3⟩ := right_counts hz
    rw [hz]
    have hz' := Lib.hid hz
    clear hz
    have hp1 := (hk0'.out.below hb1 (by omega)).cell (j := 1) rfl
    go_wp2_with fail
    refine (sNone W1 w.heap.size _ _ _ hp1 (by omega)).mono ?_
    rintro e W2 ⟨E2, k2, rfl, ho2, hb2⟩
    have hb12 := hb1.trans (hb2.mono hb1.size)
    have hp2 := (hk0'.out.below hb12 (by omega)).cell (j := 1) rfl
    clear hp1
    go_wp2_with fail
    refine (sNone W2 w.heap.size _ _ _ hp2 (by omega)).mono ?_
    rintro e W3 ⟨E3, k3, rfl, ho3, hb3⟩
    have hb13 := hb12.trans (hb3.mono hb12.size)
    have hp3 := (hk0'.out.below hb13 (by omega)).cell (j := 1) rfl
    clear hp2
    go_wp2_with fail
    refine (sNone W3 w.heap.size _ _ _ hp3 (by omega)).mono ?_
    rintro e W4 ⟨E4, k4, rfl, ho4, hb4⟩
    have hb14 := hb13.trans (hb4.mono hb13.size)
    clear hp3
    have hO := OwnSt.begun ((ho2.below (hb3.trans (hb4.mono hb3.size))).from_ hb1.size) ((ho3.below hb4).from_ (hb12).size) (ho4.from_ hb13.size)
      (fun g h h' => by have := (ho2.size g h).2; have := (ho3.size g h').1; omega) (fun g h h' => by have := (ho2.size g h).2; have := (ho4.size g h').1; have := hb3.size; omega) (fun g h h' => by have := (ho3.size g h).2; have := (ho4.size g h').1; omega)
    have hone := hO.one
    have hO' := Lib.hid hO
    clear hO ho2 ho3 ho4
    have hnb : BoxAt (W4.alloc (.cells #[.slice none 0 0, .slice none 0 0, .slice none 0 0, .slice none 0 0, .slice none 0 0, .slice none 0 0, .slice none 0 0] 31)) W4.heap.size nilSV := Blk.new _ _ _
    go_wp2_with (refine wpList_store_state rfl (.tmp 6) (.tmp 20) rfl rfl W4.heap.size nilSV ⟨nilV, nilV, nilV, nilV, .slice E2 p.sizes.length k2, .slice E3 p.sizes.length k3, .slice E4 p.sizes.length k4, [], []⟩ hnb rfl rfl hone (fun w5 hbox5 hg5 => ?_); refine Hid.out ?_)
    unfold Hid
    have hlb : W0.heap.size ≤ W4.heap.size := hb14.size
    have hb15 : Below W0.heap.size W0 w5 := (hb14.alloc hb14.size _).grown hg5 (by have := hb14.size; simp; omega) (fun k hk => by injection hk with hk; omega)
    have hO5 := (hO'.out.alloc (.cells #[.slice none 0 0, .slice none 0 0, .slice none 0 0, .slice none 0 0, .slice none 0 0, .slice none 0 0, .slice none 0 0] 31)).keptBy hg5 hnb.blk (by decide) (by decide) (by decide) (by decide) (by decide) (by decide)
    have hO5' := Lib.hid hO5
    have hbox5' := Lib.hid hbox5
    have hpl0 := (hk0'.out.below hb15 (by omega)).cell (j := 0) rfl
    clear hO5 hbox5 hO' hnb hg5 hone hb2 hb3 hb4 hb12 hb13 hb14
    generalize W4.heap.size = b at hlb hbox5' ⊢
    go_wp2_with fail
    go_loopw [24] (fun i wr => ∃ (k : Nat) (V : SV), k ≤ p.bins.length ∧ i = .int .i64 k ∧ OwnSt wr W0.heap.size V (begunTo p k) ∧ BoxAt wr b V ∧ Below W0.heap.size W0 wr) (fun i _ => p.bins.length - (intOf i).toNat)
    case atStart => exact ⟨0, _, Nat.zero_le _, rfl, hO5'.out, hbox5'.out, hb15⟩
    case round =>
      clear hpl0 hO5' hbox5' hb15
      obtain ⟨k, V, hk, rfl, hOw, hbx, hbw⟩ := hrel
      have hOw' := Lib.hid hOw
      have hbx' := Lib.hid hbx
      have hB := hb0.trans (hbw.mono hb0.size)
      have hbxl := hbx.lt
      clear hOw hbx
      by_cases hlt : k < p.bins.length
      · go_wp2_with fail
        refine wp_region_ops 5 [
          fun g _ => g 26 = .pointer (some ⟨b, 0, none⟩),
          fun g _ => g 27 = V.on,
          fun g _ => g 28 = .func (.func 53) #[] #[.pointer (some ⟨w.heap.size, 0, none⟩)],
          fun g w' => (fun v w' => Own cInt 1 3 w' wr.heap.size v (List.replicate p.sizes.length 0)) (g 29) w',
          fun g w' => (fun v w' => ∃ bb u, v = .slice (some ⟨bb, 0, none⟩) 1 1 ∧ w'.cell? ⟨bb, 0, none⟩ = some u ∧ bb < w'.heap.size ∧ Own cInt 1 3 w' wr.heap.size u (List.replicate p.sizes.length 0)) (g 30) w'] (by kernel_rfl) (by kernel_rfl) rfl (by kernel_rfl) ?_ (fun f w2 hb2 hR => ?_)
        simp only [List.take_succ_cons, List.take_zero]
        refine OpsOK.cons (OpOK.val rfl rfl (fun g w' hb ho hd => ?_)) ?_
        · have e1 := ho 6 rfl
          go_simp
        refine OpsOK.cons (OpOK.val rfl rfl (fun g w' hb ho hd => ?_)) ?_
        · have e1 : g 26 = .pointer (some ⟨b, 0, none⟩) := hd ⟨0, .data⟩ (by simp) rfl (by decide)
          have x0 := (hbx'.out.below hb hbxl).cells.1
          go_simp
        refine OpsOK.cons (OpOK.val rfl rfl (fun g w' hb ho hd => ?_)) ?_
        · have e1 := ho 5 rfl
          go_simp
        refine OpsOK.cons (OpOK.one (d := 29) (p := (fun v w' => Own cInt 1 3 w' wr.heap.size v (List.replicate p.sizes.length 0))) rfl rfl (fun v w1 w2 h hb => h.below hb) (fun g w' hb ho hd => ?_)) ?_
        · have e1 : g 28 = .func (.func 53) #[] #[.pointer (some ⟨w.heap.size, 0, none⟩)] := hd ⟨2, .data⟩ (by simp) rfl (by decide)
          have hp1 := (hk0'.out.below (hbw.trans (hb.mono hbw.size)) (by omega)).cell (j := 1) rfl
          unfold OpRel
          go_simp
          refine (sNone w' w.heap.size _ _ _ hp1 (by omega)).mono ?_
          rintro e w2 ⟨E, kc, rfl, ho2, hb2⟩
          exact ⟨_, rfl, ho2.from_ hb.size, hb2⟩
        refine OpsOK.cons (OpOK.one (d := 30) (p := (fun v w' => ∃ bb u, v = .slice (some ⟨bb, 0, none⟩) 1 1 ∧ w'.cell? ⟨bb, 0, none⟩ = some u ∧ bb < w'.heap.size ∧ Own cInt 1 3 w' wr.heap.size u (List.replicate p.sizes.length 0))) rfl rfl (fun v w1 w2 h hb => ?_) (fun g w' hb ho hd => ?_)) ?_
        · obtain ⟨bb, u, h1, h2, h3, h4⟩ := h
          exact ⟨bb, u, h1, (hb.cell (p := ⟨bb, 0, none⟩) h3).trans h2, Nat.lt_of_lt_of_le h3 hb.size, h4.below hb⟩
        · have e1 : Own cInt 1 3 w' wr.heap.size (g 29) (List.replicate p.sizes.length 0) := hd ⟨3, .data⟩ (by simp) rfl (by decide)
          obtain ⟨E, kc, e2⟩ := e1.isSlice
          have e1' := Lib.hid e1
          clear e1
          unfold OpRel
          go_simp
          have e3 : Own cInt 1 3 w' wr.heap.size (.slice E p.sizes.length kc) (List.replicate p.sizes.length 0) := by
            have := e1'.out
            rw [e2] at this
            simpa using this
          exact ⟨e3.alloc _, (Below.refl _ _).alloc (Nat.le_refl _) _⟩
        exact OpsOK.nil
        obtain ⟨r0, r1, r2, r3, ⟨bb, u, r4, c4, l4, o4⟩, _⟩ := hR
        simp only [fillA, fillT, List.take_succ_cons, List.take_zero, List.drop_succ_cons, List.drop_zero, List.filterMap_cons, List.filterMap_nil, List.foldl_cons, List.foldl_nil, List.setIfInBounds_toArray, List.set_cons_zero, List.set_cons_succ, r0, r1, r2, r4]
        clear r0 r1 r2 r3 r4
        have hOw2 := hOw'.out.below hb2
        have huf : ∀ g, Value.ownBlock u = some g → wr.heap.size ≤ g := fun g hg => (o4.size g hg).1
        refine wpList_push _ rfl (.tmp 27) (.tmp 30) 26 23 rfl W0.heap.size _ 1 24 Try.underlying26 infoInts rfl (by decide) (by decide) V.on V.rows u rfl hOw2.on ⟨bb, 0, none⟩ 1 rfl rfl (fun j x hj => by
          cases j with
          | zero => simp only [List.getElem?_cons_zero, Option.some.injEq] at hj; subst hj; exact c4
          | succ j => simp at hj) (one_val _ (own_one o4)) (by rw [hOw2.rlen]; simp [begunTo]; omega) (Nat.le_trans hbw.size hb2.size) ?_
        intro v7 w7 hown7 hg7 hat7 hbel7
        have hO7 := hOw'.out.pushRow hb2 (o4.from_ hbw.size) huf hg7 hown7
        have hBx7 : BoxAt w7 b V := (hbx'.out.below hb2 hbxl).grown hg7 (fun he => by
          rcases hOw2.on.notBox (hbx'.out.below hb2 hbxl).blk (by decide) with h | h
          · rw [h] at he; cases he
          · exact h he.symm)
        have hbw7 : Below W0.heap.size W0 w7 := (hbw.trans (hb2.mono hbw.size)).trans hbel7
        have hO8 := hO7.box hBx7 0 v7
        have hBx8 := hBx7.setOn v7
        rw [← begunTo_succ] at hO8
        have hbw8 := hbw7.setCell (p := ⟨b, 0, none⟩) hlb v7
        obtain ⟨Av, cv, hv7⟩ := hown7.isSlice
        simp only [List.length_append, List.length_cons, List.length_nil, Nat.zero_add] at hv7
        have hO8' := Lib.hid hO8
        have hBx8' := Lib.hid hBx8
        have q1 := hBx7.cells.1
        have qf := hBx7.frozen 0
        clear hO8 hBx8 hO7 hBx7 hown7 hg7 hat7 hbel7 huf hOw2 o4 c4
        subst hv7
        go_wp2_with fail
        go_roundw
        case rel => exact ⟨k + 1, _, by omega, by go_num, hO8'.out, hBx8'.out, hbw8⟩
        case measure => simp [intOf]; omega
      · obtain rfl : k = p.bins.length := by omega
        have hR1 := hk1'.out.below hbw hsz0
        obtain ⟨b0, b1, b2, b3, b4, b5, b6⟩ := hbx'.out.cells
        have hone := hOw'.out.one
        go_wp2_with (refine wpList_store_state rfl (.tmp 2) (.tmp 34) rfl rfl (w.heap.size + 1) nilSV V hR1 rfl rfl hone (fun w9 hbox9 hg9 => ?_))
        have hO9 := hOw'.out.keptBy hg9 hR1.blk (by decide) (by decide) (by decide) (by decide) (by decide) (by decide)
        obtain ⟨p0, p1, p2, p3, p4, p5, p6⟩ := hbox9.cells
        have hfin : Below w.heap.size w w9 := hB.grown hg9 hB.size (fun k hk => by injection hk with hk; omega)
        have hsB : w.heap.size ≤ W0.heap.size := hb0.size
        clear b0 b1 b2 b3 b4 b5 b6
        go_wp2_with fail
        exact bodyPost_ret (v := .tuple #[V.val, .int .i64 0]) (by simp [results, Try.results20, go_sem, SV.val, p0, p1, p2, p3, p4, p5, p6]) rfl ⟨V, rfl, hO9.from_ hsB, hfin⟩
  · have hne : (checkPlan p != 0) = true := by simpa using hz
    go_wp2_with (refine wpList_store_state rfl (.tmp 2) (.tmp 11) rfl rfl (w.heap.size + 1) nilSV nilSV hx1 rfl rfl rfl (fun w9 hbox9 hg9 => ?_))
    obtain ⟨p0, p1, p2, p3, p4, p5, p6⟩ := hbox9.cells
    have hfin : Below w.heap.size w w9 := hB1.grown hg9 hB1.size (fun k hk => by injection hk with hk; omega)
    go_wp2_with fail
    refine bodyPost_ret (v := .tuple #[nilSV.val, .int .i64 (checkPlan p)]) (by simp [results, Try.results20, go_sem, SV.val, p0, p1, p2, p3, p4, p5, p6]) rfl ⟨nilSV, rfl, ?_, hfin⟩
    exact OwnSt.zero _ _

/-- What BeginOf has made by now. -/
structure RB (w : World) (base : Nat) (V : SV) (z : List Int) (k : Nat) : Prop where
  on : Own (fun u : Value => [u]) 1 23 w base V.on V.rows
  rlen : V.rows.length = k
  row : ∀ b, b < k → Own cInt 1 3 w base (V.row b) z
  inn : Own cInt 1 3 w base V.inn z
  out : Own cInt 1 3 w base V.out z
  fixed : Own cInt 1 3 w base V.fixed z
  none1 : V.orders = nilV
  none2 : V.holds = nilV
  none3 : V.moves = nilV
namespace RB
variable {w w' : World} {base : Nat} {V : SV} {z : List Int} {k : Nat}
theorem below (h : RB w base V z k) (hb : Below w.heap.size w w') : RB w' base V z k :=
  ⟨h.on.below hb, h.rlen, fun b hk => (h.row b hk).below hb, h.inn.below hb, h.out.below hb, h.fixed.below hb, h.none1, h.none2, h.none3⟩
theorem keptBy (h : RB w base V z k) {b : Nat} {t : TypeId} {cur : List Value} (hg : w.grownBy w' (some b)) (hb : Blk w b t cur) (h1 : 23 ≠ t) (h2 : 3 ≠ t) : RB w' base V z k :=
  ⟨h.on.kept hg (h.on.notBox hb h1), h.rlen, fun b hk => (h.row b hk).kept hg ((h.row b hk).notBox hb h2), h.inn.kept hg (h.inn.notBox hb h2), h.out.kept hg (h.out.notBox hb h2), h.fixed.kept hg (h.fixed.notBox hb h2), h.none1, h.none2, h.none3⟩
theorem from_ (h : RB w base V z k) {base' : Nat} (hb : base' ≤ base) : RB w base' V z k :=
  ⟨h.on.from_ hb, h.rlen, fun b hk => (h.row b hk).from_ hb, h.inn.from_ hb, h.out.from_ hb, h.fixed.from_ hb, h.none1, h.none2, h.none3⟩
theorem one (h : RB w base V z k) : V.cells.all (fun u => u.oneCell') = true := by
  simp [SV.cells, own_one h.on, own_one h.inn, own_one h.out, own_one h.fixed, h.none1, h.none2, h.none3, show nilV.oneCell' = true from rfl]
theorem push (h : RB w base V z k) {u v' : Value} (hu : Own cInt 1 3 w base u z) (hg : w.grownBy w' V.on.ownBlock) (hv : Own (fun u : Value => [u]) 1 23 w' base v' (V.rows ++ [u])) : RB w' base { V with on := v', rows := V.rows ++ [u] } z (k + 1) := by
  refine ⟨hv, by simp [h.rlen], fun b hb => ?_, h.inn.kept hg (h.inn.apart h.on (by decide)), h.out.kept hg (h.out.apart h.on (by decide)), h.fixed.kept hg (h.fixed.apart h.on (by decide)), h.none1, h.none2, h.none3⟩
  by_cases hlt : b < k
  · have e1 : SV.row { V with on := v', rows := V.rows ++ [u] } b = V.row b := by
      unfold SV.row
      simp [List.getD_eq_getElem?_getD, List.getElem?_append_left (show b < V.rows.length by rw [h.rlen]; exact hlt)]
    rw [e1]
    exact (h.row b hlt).kept hg ((h.row b hlt).apart h.on (by decide))
  · have hb2 : b = k := by omega
    have e1 : SV.row { V with on := v', rows := V.rows ++ [u] } b = u := by
      unfold SV.row
      rw [hb2, ← h.rlen]
      simp
    rw [e1]
    exact hu.kept hg (hu.apart h.on (by decide))
end RB
end Wh
namespace Wh
open Go Go.RowKit
/-- As relB, but operations may wait for a guard. -/
def relG (l : List Oper) (n : Nat) : Bool :=
  (decide (n = l.length) || (decide (n < l.length) && Region.sinkB .any l.toArray n && Region.chainB .any l.toArray n)) && Region.seqB .any l.toArray (l.length - n) n (heads l.length n) &&
  decide ((l.take n).filterMap (·.dst)).Nodup && (List.range n).all fun i => ((l[i]?).map fun o => o.after.all fun e => !Region.binds .any e || decide (e.on < i)).getD true
section
variable {P : Program} {l : List Oper} {n : Nat} {R : Nat → (Nat → Value) → World → Prop} {Q : Exit → Act → World → Prop} {a : Act} {w : World}
/-- What is to be shown of one operation: it is carried out, or its guard says no. -/
def StepG (P : Program) (l : List Oper) (n : Nat) (R : Nat → (Nat → Value) → World → Prop) (Q : Exit → Act → World → Prop) (a : Act) (w : World) (i : Nat) (o : Oper) : Prop :=
  ∀ f w', Below w.heap.size w w' → Deps n R f w' o →
    (Region.wanted o (yielded l.toArray (fillA a (l.take n) f).tmps) = true ∧ o.wp P (fillA a (l.take n) f) w' (fun a' w'' => ∃ v, a' = (fillA a (l.take n) f).put o.dst v ∧ R i (updO f o.dst v) w'' ∧ Below w'.heap.size w' w'') Q) ∨
    (Region.wanted o (yielded l.toArray (fillA a (l.take n) f).tmps) = false ∧ R i (updO f o.dst undef) w')
theorem rel_runG (hle : n ≤ l.length) (hwait : ∀ listed, HeadInv .any l.toArray n listed → ∀ i, i < n → listed.getD i true = false → ∀ t, n ≤ t → t ∉ Region.ready .any l.toArray listed) (hseq : Region.seqB .any l.toArray (l.length - n) n (heads l.length n) = true)
    (hnd : ((l.take n).filterMap (·.dst)).Nodup) (hback : ∀ i o, i < n → l[i]? = some o → ∀ e ∈ o.after, Region.binds .any e = true → e.on < i)
    (hst : ∀ i g w1 w2, R i g w1 → Below w1.heap.size w1 w2 → R i g w2) (hsup : ∀ i g g' w, (∀ j o d, Anc l j i → l[j]? = some o → o.dst = some d → g d = g' d) → R i g w → R i g' w) (hsteps : ∀ i o, i < n → l[i]? = some o → StepG P l n R Q a w i o)
    (hend : ∀ f w', Below w.heap.size w w' → (∀ i, i < n → R i f w') → wpList P l.toArray Q (l.drop n) (fillA a (l.take n) f) w') :
    ∀ (k : Nat) (listed : Array Bool) (f : Nat → Value) (w' : World), HeadInv .any l.toArray n listed → unl listed n = k → Below w.heap.size w w' → (∀ i, i < n → listed.getD i false = true → R i f w') →
      wpAny P .any l.toArray Q (k + (l.length - n)) listed (fillA a (l.take n) f) w'
  | 0, listed, f, w', inv, hk, hb, hR => by
    have hsz : listed.size = l.length := by rw [inv.size]; simp
    have he : listed = heads l.length n := by
      apply Array.ext_getElem?
      intro i
      unfold heads
      rw [Array.getElem?_append]
      simp only [Array.size_replicate]
      by_cases hi : i < n
      · rw [if_pos hi]
        have h1 := unl_zero hk hi
        have h2 : i < listed.size := by omega
        simp [hi, h2, Array.getD] at h1 ⊢
        exact h1
      · rw [if_neg hi]
        by_cases hl : i < l.length
        · have h1 := inv.tail i (by omega) (by simpa using hl)
          have h2 : i < listed.size := by omega
          have h3 : i - n < l.length - n := by omega
          simp [h2, h3, Array.getD] at h1 ⊢
          exact h1
        · rw [Array.getElem?_eq_none (by omega), Array.getElem?_eq_none (by simp; omega)]
    have hd : l.length - n = (l.drop n).length := by simp
    rw [Nat.zero_add, hd]
    refine wpAny_of_seq (l.drop n) n listed _ w' (fun j => by simp [List.getElem?_drop]) (by rw [he, ← hd]; exact hseq) (hend f w' hb fun i hin => hR i hin ?_)
    have h1 := unl_zero hk hin
    have h2 : i < listed.size := by omega
    simp [h2, Array.getD] at h1 ⊢
    exact h1
  | k + 1, listed, f, w', inv, hk, hb, hR => by
    have hsz : listed.size = l.length := by rw [inv.size]; simp
    obtain ⟨i0, hi0, hu0⟩ := unl_pos (show 0 < unl listed n by omega)
    have hne : ∀ i, i < n → listed.getD i true = false → Region.ready .any l.toArray listed ≠ [] := by
      intro i
      induction i using Nat.strongRecOn with
      | _ i ih =>
        intro hin hu
        have hil : i < l.length := by omega
        by_cases hall : ∀ e ∈ (l[i]).after, Region.binds .any e = true → listed.getD e.on false = true
        · have : i ∈ Region.ready .any l.toArray listed := mem_ready.2 ⟨hu, l[i], by simp [hil], hall⟩
          intro h0
          rw [h0] at this
          cases this
        · simp only [Classical.not_forall] at hall
          obtain ⟨e, he, hbd, hno⟩ := hall
          have hlt := hback i l[i] hin (by simp [hil]) e he hbd
          exact ih e.on hlt (by omega) (getD_in (by omega) (by simpa using hno))
    rw [show k + 1 + (l.length - n) = (k + (l.length - n)) + 1 by omega]
    refine ⟨fun h0 => absurd h0 (hne i0 hi0 hu0), fun i hi => ?_⟩
    have hin : i < n := by
      rcases Nat.lt_or_ge i n with h | h
      · exact h
      · exact absurd hi (hwait listed inv i0 hi0 hu0 i h)
    obtain ⟨hu, o, ho, hall⟩ := mem_ready.1 hi
    have ho' : l[i]? = some o := by simpa using ho
    have h1 := hsteps i o hin ho' f w' hb fun e he hbd hen => hR e.on hen (hall e he hbd)
    have hcont : ∀ v w'', R i (updO f o.dst v) w'' → Below w'.heap.size w' w'' → wpAny P .any l.toArray Q (k + (l.length - n)) (listed.setIfInBounds i true) ((fillA a (l.take n) f).put o.dst v) w'' := by
      intro v w'' hv hbw
      have hcount : unl (listed.setIfInBounds i true) n = k := by
        have := unl_set hu n
        rw [if_pos hin] at this
        omega
      have hb2 := hb.trans (hbw.mono hb.size)
      have hanc : ∀ j k, Anc l j k → k < n → listed.getD k false = true → j < n ∧ listed.getD j false = true := by
        intro j k h
        induction h with
        | self => exact fun h1 h2 => ⟨h1, h2⟩
        | back ho he hbd hon _ ih =>
          intro h1 h2
          subst hon
          have := hback _ _ h1 ho _ he hbd
          exact ih (by omega) (inv.closed _ _ (by simpa using ho) h2 _ he hbd)
      have hfin : (fillA a (l.take n) f).put o.dst v = fillA a (l.take n) (updO f o.dst v) := by
        cases hdst : o.dst with
        | none => rfl
        | some d0 =>
          unfold fillA Act.put updO
          simp only
          rw [fillT_put (dst_mem ho' hin hdst)]
      rw [hfin]
      refine rel_runG hle hwait hseq hnd hback hst hsup hsteps hend k _ (updO f o.dst v) w'' (inv.set hi hin) hcount hb2 fun j hjn hl => ?_
      by_cases hij : i = j
      · subst hij
        exact hv
      · rw [getD_set_ne false hij] at hl
        refine hsup j f _ _ (fun j' oj d haj hoj hd => ?_) (hst _ _ _ _ (hR j hjn hl) hbw)
        obtain ⟨hjn', hlj'⟩ := hanc _ _ haj hjn hl
        cases hdst : o.dst with
        | none => rfl
        | some d0 =>
          have hne : i ≠ j' := fun e => by
            subst e
            rw [getD_both hu] at hlj'
            cases hlj'
          have hdd := dst_ne hnd ho' hin hdst hoj hjn' hd hne
          unfold updO upd
          simp only
          rw [if_neg (fun e => hdd e.symm)]
    unfold wpOp
    simp only [ho]
    rcases h1 with ⟨hw, h1⟩ | ⟨hw, h1⟩
    · rw [if_pos hw]
      refine .inl (Oper.wp_mono ?_ h1)
      rintro a' w'' ⟨v, rfl, hv, hbw⟩
      exact hcont v w'' hv hbw
    · rw [if_neg (by simp [hw])]
      exact hcont undef w' h1 (Below.refl _ _)

theorem wp_region_relG (n : Nat) (R : Nat → (Nat → Value) → World → Prop) {id : Nat} (hm : P.follows .mixedOrders = true) (hB : relG l n = true) (hst : ∀ i g w1 w2, R i g w1 → Below w1.heap.size w1 w2 → R i g w2)
    (hsup : ∀ i g g' w, (∀ j o d, Anc l j i → l[j]? = some o → o.dst = some d → g d = g' d) → R i g w → R i g' w) (hsteps : ∀ i o, i < n → l[i]? = some o → StepG P l n R Q a w i o)
    (hend : ∀ f w', Below w.heap.size w w' → (∀ i, i < n → R i f w') → wpList P l.toArray Q (l.drop n) (fillA a (l.take n) f) w') : (Code.region id l.toArray true).wp P Q a w := by
  simp only [relG, Bool.and_eq_true, Bool.or_eq_true, decide_eq_true_eq, List.all_eq_true] at hB
  obtain ⟨⟨⟨hw, hseq⟩, hnd⟩, hback⟩ := hB
  have hle : n ≤ l.length := by rcases hw with h | h <;> omega
  have hat : ∀ i o, i < n → l[i]? = some o → o ∈ l.take n := fun i o hin hi => by
    rw [List.mem_iff_getElem?]
    exact ⟨i, by rw [List.getElem?_take]; simp [hin, hi]⟩
  refine wp_region_any hm ?_
  have H := rel_runG (P := P) (Q := Q) (a := a) (w := w) hle ?_ hseq hnd ?_ hst hsup hsteps hend n (Array.replicate l.toArray.size false) (fun d => a.tmps.getD d undef) w.drew
    ⟨by simp, fun j oj _ hl => (by rw [getD_replicate_false] at hl; cases hl), fun t _ ht => getD_in (by simpa using ht) (getD_replicate_false _ _)⟩ ?_ (Below.refl _ _).drew (fun i _ hl => by rw [getD_replicate_false] at hl; cases hl)
  · have e : fillA a (l.take n) (fun d => a.tmps.getD d undef) = a := by
      unfold fillA
      rw [fillT_self]
    rw [e] at H
    have hs : n + (l.length - n) = l.toArray.size := by simp; omega
    rw [hs] at H
    exact H
  · intro listed inv i hin hu t ht hr
    rcases hw with h | ⟨⟨h1, h2⟩, h3⟩
    · obtain ⟨_, o, ho, _⟩ := mem_ready.1 hr
      have := (Array.getElem?_eq_some_iff.1 ho).1
      simp at this
      omega
    · exact tail_waits h2 h3 (by simpa using h1) inv (n - i) i rfl hin hu t ht hr
  · intro i o hin hi e he hbd
    have := hback i (List.mem_range.2 hin)
    rw [hi] at this
    simp only [Option.map_some, Option.getD_some, Array.all_eq_true_iff_forall_mem, Bool.or_eq_true, Bool.not_eq_true', decide_eq_true_eq] at this
    rcases this e he with h | h
    · rw [h] at hbd; cases hbd
    · exact h
  · have key : ∀ m, m ≤ l.length → unl (Array.replicate l.toArray.size false) m = m := by
      intro m
      induction m with
      | zero => intro _; rfl
      | succ m ih =>
        intro hm
        have := ih (by omega)
        unfold unl at this ⊢
        have hml : m < l.length := by omega
        rw [List.range_succ, List.countP_append, this]
        simp [hml]
    exact key n hle

/-- The operation's guard, as the slots stand: it lets it through; it does not. -/
def GuardIs (l : List Oper) (o : Oper) (g : Nat → Value) : Prop := match o.guard with | none => True | some (k, b) => ∃ d, (l[k]?.bind (·.dst)) = some d ∧ g d = .bool b
def GuardNo (l : List Oper) (o : Oper) (g : Nat → Value) : Prop := match o.guard with | none => False | some (k, b) => ∃ d, (l[k]?.bind (·.dst)) = some d ∧ g d = .bool (!b)
theorem getD_bool {t : Array Value} {d : Nat} {b : Bool} (h : t.getD d undef = .bool b) : t[d]? = some (.bool b) := by
  rw [Array.getD_eq_getD_getElem?] at h
  cases hc : t[d]? with
  | none => rw [hc] at h; simp [undef] at h
  | some v => rw [hc] at h; simp at h; rw [h]
theorem GuardIs.wanted {l : List Oper} {o : Oper} {t : Array Value} (h : GuardIs l o (fun d => t.getD d undef)) : Region.wanted o (yielded l.toArray t) = true := by
  unfold GuardIs at h
  unfold Region.wanted
  cases hg : o.guard with
  | none => rfl
  | some p =>
    obtain ⟨k, b⟩ := p
    rw [hg] at h
    obtain ⟨d, h1, h2⟩ := h
    have h3 := getD_bool h2
    simp [yielded, h1, h3]
theorem GuardNo.wanted {l : List Oper} {o : Oper} {t : Array Value} (h : GuardNo l o (fun d => t.getD d undef)) : Region.wanted o (yielded l.toArray t) = false := by
  unfold GuardNo at h
  unfold Region.wanted
  cases hg : o.guard with
  | none => rw [hg] at h; exact h.elim
  | some p =>
    obtain ⟨k, b⟩ := p
    rw [hg] at h
    obtain ⟨d, h1, h2⟩ := h
    have h3 := getD_bool h2
    simp [yielded, h1, h3]
theorem StepG.of {i : Nat} {o : Oper} (hin : l[i]? = some o) (hi : i < n) (hB : relG l n = true) (hsz : ((l.take n).filterMap (·.dst)).all (fun d => decide (d < a.tmps.size)) = true)
    (hsup : ∀ i g g' w, (∀ j o d, Anc l j i → l[j]? = some o → o.dst = some d → g d = g' d) → R i g w → R i g' w)
    (h : ∀ (g : Nat → Value) w', Below w.heap.size w w' → (∀ d, ((l.take n).filterMap (·.dst)).contains d = false → g d = a.tmps.getD d undef) → Deps n R g w' o → (GuardIs l o g ∧ OpRel P o (evL g) w' fun v w'' => R i (updO g o.dst v) w'' ∧ Below w'.heap.size w' w'') ∨ (GuardNo l o g ∧ R i (updO g o.dst undef) w')) :
    StepG P l n R Q a w i o := by
  simp only [relG, Bool.and_eq_true, Bool.or_eq_true, decide_eq_true_eq, List.all_eq_true] at hB
  obtain ⟨_, hback⟩ := hB
  have hback' : ∀ k oe, k < n → l[k]? = some oe → ∀ e ∈ oe.after, Region.binds .any e = true → e.on < k := fun k oe hk hoe e he hbd => by
    have := hback k (List.mem_range.2 hk)
    rw [hoe] at this
    simp only [Option.map_some, Option.getD_some, Array.all_eq_true_iff_forall_mem, Bool.or_eq_true, Bool.not_eq_true', decide_eq_true_eq] at this
    rcases this e he with h | h
    · rw [h] at hbd; cases hbd
    · exact h
  have hanc : ∀ j k, Anc l j k → k < n → j < n := by
    intro j k h
    induction h with
    | self => exact id
    | back ho he hbd hon _ ih =>
      intro h1
      subst hon
      have := hback' _ _ h1 ho _ he hbd
      exact ih (by omega)
  have hsz' : ∀ d ∈ (l.take n).filterMap (·.dst), d < a.tmps.size := fun d hd => by
    have := List.all_eq_true.1 hsz d hd
    simpa using this
  intro f w' hb hd
  have hg : ∀ d ∈ (l.take n).filterMap (·.dst), (fillA a (l.take n) f).tmps.getD d undef = f d := fun d hd => by
    have h1 := fillT_get ((l.take n).filterMap (·.dst)) f a.tmps d
    rw [if_pos (hsz' d hd), if_pos hd] at h1
    unfold fillA
    simp only [Array.getD_eq_getD_getElem?, h1, Option.getD_some]
  have ho : ∀ d, ((l.take n).filterMap (·.dst)).contains d = false → (fillA a (l.take n) f).tmps.getD d undef = a.tmps.getD d undef := fun d hd => by
    have h1 := fillT_get ((l.take n).filterMap (·.dst)) f a.tmps d
    have h2 : d ∉ (l.take n).filterMap (·.dst) := by simpa using hd
    rw [if_neg h2] at h1
    unfold fillA
    simp only [Array.getD_eq_getD_getElem?, h1]
    by_cases hl : d < a.tmps.size
    · rw [if_pos hl]
    · rw [if_neg hl, Array.getElem?_eq_none (Nat.le_of_not_lt hl)]
  have key := h (fun d => (fillA a (l.take n) f).tmps.getD d undef) w' hb ho (fun e he hbd hen => hsup e.on f _ _ (fun j oj d haj hoj hdj => (hg d (dst_mem hoj (hanc _ _ haj hen) hdj)).symm) (hd e he hbd hen))
  have hback2 : ∀ v w'', R i (updO (fun d => (fillA a (l.take n) f).tmps.getD d undef) o.dst v) w'' → R i (updO f o.dst v) w'' := fun v w'' hr => by
    refine hsup i _ _ _ (fun j oj d haj hoj hdj => ?_) hr
    have hjn := hanc _ _ haj hi
    have hmem := dst_mem hoj hjn hdj
    cases hdst : o.dst with
    | none => exact hg d hmem
    | some d0 =>
      unfold updO upd
      simp only
      split
      · rfl
      · exact hg d hmem
  rcases key with ⟨hw, key⟩ | ⟨hw, key⟩
  · rw [← evL_eval] at key
    refine .inl ⟨hw.wanted, Oper.wp_mono ?_ key.wp⟩
    rintro a' w'' ⟨v, rfl, hr, hbw⟩
    exact ⟨v, rfl, hback2 v w'' hr, hbw⟩
  · exact .inr ⟨hw.wanted, hback2 undef w' key⟩


/-- One operation: what it says stays, hangs on what came before it alone, and comes; or its guard says no. -/
def OpG (P : Program) (l : List Oper) (n : Nat) (Rs : List RelP) (a : Act) (w : World) (i : Nat) (o : Oper) (p : RelP) : Prop :=
  (∀ g w1 w2, p g w1 → Below w1.heap.size w1 w2 → p g w2) ∧ (∀ g g' w, (∀ j o d, Anc l j i → l[j]? = some o → o.dst = some d → g d = g' d) → p g w → p g' w) ∧
  ∀ g w', Below w.heap.size w w' → (∀ d, ((l.take n).filterMap (·.dst)).contains d = false → g d = a.tmps.getD d undef) → Deps n (atR Rs) g w' o →
    (GuardIs l o g ∧ OpRel P o (evL g) w' fun v w'' => p (updO g o.dst v) w'' ∧ Below w'.heap.size w' w'') ∨ (GuardNo l o g ∧ p (updO g o.dst undef) w')
def OpsG (P : Program) (l : List Oper) (n : Nat) (Rs : List RelP) (a : Act) (w : World) : Nat → List Oper → List RelP → Prop
  | _, [], _ => True
  | _, _ :: _, [] => False
  | i, o :: r, p :: ps => OpG P l n Rs a w i o p ∧ OpsG P l n Rs a w (i + 1) r ps
theorem OpsG.at {Rs : List RelP} : ∀ {r : List Oper} {ps : List RelP} {k : Nat}, OpsG P l n Rs a w k r ps → ∀ {j : Nat} {o : Oper}, r[j]? = some o → OpG P l n Rs a w (k + j) o (ps.getD j (fun _ _ => True))
  | [], _, _, _, _, _, h => by simp at h
  | _ :: _, [], _, h, _, _, _ => h.elim
  | x :: r, p :: ps, k, h, 0, o, hj => by
    simp at hj
    subst hj
    exact h.1
  | x :: r, p :: ps, k, h, j + 1, o, hj => by
    have := OpsG.at h.2 (j := j) (o := o) (by simpa using hj)
    rw [show k + 1 + j = k + (j + 1) by omega] at this
    simpa using this
theorem wp_region_opsG (n : Nat) (Rs : List RelP) {id : Nat} (hm : P.follows .mixedOrders = true) (hB : relG l n = true) (hn : Rs.length = n) (hsz : ((l.take n).filterMap (·.dst)).all (fun d => decide (d < a.tmps.size)) = true)
    (hops : OpsG P l n Rs a w 0 (l.take n) Rs) (hend : ∀ f w', Below w.heap.size w w' → AllR Rs f w' → wpList P l.toArray Q (l.drop n) (fillA a (l.take n) f) w') : (Code.region id l.toArray true).wp P Q a w := by
  have hle : n ≤ l.length := by
    have := hB
    simp only [relG, Bool.and_eq_true, Bool.or_eq_true, decide_eq_true_eq] at this
    rcases this.1.1.1 with h | h <;> omega
  have hat : ∀ i, i < n → ∃ o, l[i]? = some o ∧ OpG P l n Rs a w i o (atR Rs i) := fun i hi => by
    have hil : i < l.length := by omega
    refine ⟨l[i], by simp [hil], ?_⟩
    have := hops.at (j := i) (o := l[i]) (by rw [List.getElem?_take]; simp [hi, hil])
    rwa [Nat.zero_add] at this
  have hst : ∀ i g w1 w2, atR Rs i g w1 → Below w1.heap.size w1 w2 → atR Rs i g w2 := fun i g w1 w2 h hb => by
    by_cases hi : i < n
    · obtain ⟨o, _, h1, _⟩ := hat i hi
      exact h1 g w1 w2 h hb
    · unfold atR
      rw [List.getD_eq_getElem?_getD, List.getElem?_eq_none (by omega)]
      trivial
  have hsup : ∀ i g g' w, (∀ j o d, Anc l j i → l[j]? = some o → o.dst = some d → g d = g' d) → atR Rs i g w → atR Rs i g' w := fun i g g' w1 he h => by
    by_cases hi : i < n
    · obtain ⟨o, _, _, h2, _⟩ := hat i hi
      exact h2 g g' w1 he h
    · unfold atR
      rw [List.getD_eq_getElem?_getD, List.getElem?_eq_none (by omega)]
      trivial
  refine wp_region_relG n (atR Rs) hm hB hst hsup (fun i o hin hi => ?_) (fun f w' hb hR => hend f w' hb (AllR.of fun i hi => hR i (by omega)))
  obtain ⟨o', ho', _, _, h3⟩ := hat i hin
  rw [hi] at ho'
  injection ho' with ho'
  subst ho'
  exact StepG.of hi hin hB hsz hsup h3
theorem OpsG.nil {Rs : List RelP} {i : Nat} {ps : List RelP} : OpsG P l n Rs a w i [] ps := by cases ps <;> trivial
theorem OpsG.cons {Rs : List RelP} {i : Nat} {o : Oper} {r : List Oper} {p : RelP} {ps : List RelP} (h : OpG P l n Rs a w i o p) (h' : OpsG P l n Rs a w (i + 1) r ps) : OpsG P l n Rs a w i (o :: r) (p :: ps) := ⟨h, h'⟩
/-- An operation whose value is known. -/
theorem OpG.val {Rs : List RelP} {i d : Nat} {o : Oper} {c : Value} (hi : l[i]? = some o) (ho : o.dst = some d)
    (hgd : ∀ g w', (∀ d, ((l.take n).filterMap (·.dst)).contains d = false → g d = a.tmps.getD d undef) → Deps n (atR Rs) g w' o → GuardIs l o g)
    (h : ∀ g w', Below w.heap.size w w' → (∀ d, ((l.take n).filterMap (·.dst)).contains d = false → g d = a.tmps.getD d undef) → Deps n (atR Rs) g w' o → (execOp (evL g) o).run P w' = .ok (.value c) w') :
    OpG P l n Rs a w i o (fun g _ => g d = c) := by
  refine ⟨fun _ _ _ h _ => h, fun g g' _ he h => (he i o d (Anc.self i) hi ho).symm.trans h, fun g w' hb hout hd => .inl ⟨hgd g w' hout hd, ?_⟩⟩
  unfold OpRel
  rw [h g w' hb hout hd]
  refine ⟨?_, Below.refl _ _⟩
  rw [ho]
  unfold updO upd
  simp
/-- An operation whose guard says no. -/
theorem OpG.skip {Rs : List RelP} {i d : Nat} {o : Oper} (hi : l[i]? = some o) (ho : o.dst = some d)
    (hgd : ∀ g w', (∀ d, ((l.take n).filterMap (·.dst)).contains d = false → g d = a.tmps.getD d undef) → Deps n (atR Rs) g w' o → GuardNo l o g) :
    OpG P l n Rs a w i o (fun g _ => g d = undef) := by
  refine ⟨fun _ _ _ h _ => h, fun g g' _ he h => (he i o d (Anc.self i) hi ho).symm.trans h, fun g w' hb hout hd => .inr ⟨hgd g w' hout hd, ?_⟩⟩
  rw [ho]
  unfold updO upd
  simp
/-- An operation of whose value something is known, by itself. -/
theorem OpG.one {Rs : List RelP} {i d : Nat} {o : Oper} {p : Value → World → Prop} (hi : l[i]? = some o) (ho : o.dst = some d) (hst : ∀ v w1 w2, p v w1 → Below w1.heap.size w1 w2 → p v w2)
    (hgd : ∀ g w', (∀ d, ((l.take n).filterMap (·.dst)).contains d = false → g d = a.tmps.getD d undef) → Deps n (atR Rs) g w' o → GuardIs l o g)
    (h : ∀ g w', Below w.heap.size w w' → (∀ d, ((l.take n).filterMap (·.dst)).contains d = false → g d = a.tmps.getD d undef) → Deps n (atR Rs) g w' o → OpRel P o (evL g) w' fun v w'' => p v w'' ∧ Below w'.heap.size w' w'') :
    OpG P l n Rs a w i o (fun g w => p (g d) w) := by
  refine ⟨fun g w1 w2 h hb => hst _ _ _ h hb, fun g g' w1 he h => ?_, fun g w' hb hout hd => .inl ⟨hgd g w' hout hd, ?_⟩⟩
  · show p (g' d) w1
    rw [← he i o d (Anc.self i) hi ho]
    exact h
  · have := h g w' hb hout hd
    rw [ho]
    have e : ∀ v, updO g (some d) v d = v := fun v => by unfold updO upd; simp
    simpa only [e] using this
end
end Wh
namespace Wh
open Go Go.RowKit Go.Proofs
section
variable {α : Type} {enc : α → List Value} {size : Nat} {e : TypeId} {w : World} {base : Nat} {v : Value} {l : List α}
theorem Own.at (h : Own enc size e w base v l) (hk : ∀ x, (enc x).length = size) {i : Nat} (hi : i < l.length) :
    ∃ g c cur, v = .slice (some ⟨g, 0, none⟩) l.length c ∧ base ≤ g ∧ Blk w g e cur ∧ ∀ j u, (enc l[i])[j]? = some u → w.cell? ⟨g, i * size + j, none⟩ = some u := by
  obtain ⟨g, c, cur, h1, h2, h3, h4, h5, h6, h7⟩ := h.row (by omega)
  refine ⟨g, c, cur, h1, h2, h3, fun j u hj => h3.cell ?_⟩
  have hjs : j < size := by
    have := (List.getElem?_eq_some_iff.1 hj).1
    rwa [hk] at this
  have hf := flat_get enc size hk l i j l[i] (by simp [hi]) hjs
  rw [← h7] at hf
  rw [← hj, ← hf, List.getElem?_take]
  rw [if_pos]
  calc i * size + j < i * size + size := by omega
    _ = (i + 1) * size := by rw [Nat.add_mul]; omega
    _ ≤ l.length * size := Nat.mul_le_mul_right _ (by omega)
end
theorem Blk.ne {w : World} {g g' : Nat} {e e' : TypeId} {cur cur' : List Value} (h : Blk w g e cur) (h' : Blk w g' e' cur') (hne : e ≠ e') : g ≠ g' := by
  rintro rfl
  unfold Blk at h h'
  rw [h] at h'
  injection h' with h'
  injection h' with _ h3
  exact hne h3
/-- A store into a block of another type leaves a state's box. -/
theorem BoxAt.off {w w' : World} {b g : Nat} {V : SV} {e : TypeId} {cur : List Value} (h : BoxAt w b V) (hg : w.grownBy w' (some g)) (hb : Blk w g e cur) (hne : e ≠ 31) : BoxAt w' b V :=
  h.grown hg (by intro he; injection he with he; exact hb.ne h.blk hne he.symm)
namespace OwnSt
variable {w w' : World} {base : Nat} {V : SV} {s : State}
/-- The cells of a hold. -/
theorem holdAt (h : OwnSt w base V s) {k : Nat} (hk : k < s.holds.length) : ∃ g c cur, V.holds = .slice (some ⟨g, 0, none⟩) s.holds.length c ∧ base ≤ g ∧ Blk w g 87 cur ∧
    w.cell? ⟨g, k * 4, none⟩ = some (.int .i64 (hold s.holds k).order) ∧ w.cell? ⟨g, k * 4 + 1, none⟩ = some (.int .i64 (hold s.holds k).line) ∧ w.cell? ⟨g, k * 4 + 2, none⟩ = some (.int .i64 (hold s.holds k).bin) ∧ w.cell? ⟨g, k * 4 + 3, none⟩ = some (.int .i64 (hold s.holds k).n) := by
  obtain ⟨g, c, cur, h1, h2, h3, h4⟩ := h.holds.at (fun _ => rfl) hk
  have e : s.holds[k] = hold s.holds k := by simp [hold, hk]
  rw [e] at h4
  exact ⟨g, c, cur, h1, h2, h3, h4 0 _ rfl, h4 1 _ rfl, h4 2 _ rfl, h4 3 _ rfl⟩
/-- The cells of a move. -/
theorem moveAt (h : OwnSt w base V s) {k : Nat} (hk : k < s.moves.length) : ∃ g c cur, V.moves = .slice (some ⟨g, 0, none⟩) s.moves.length c ∧ base ≤ g ∧ Blk w g 92 cur ∧
    w.cell? ⟨g, k * 4, none⟩ = some (.int .i64 (Wh.moveAt s.moves k).good) ∧ w.cell? ⟨g, k * 4 + 1, none⟩ = some (.int .i64 (Wh.moveAt s.moves k).src) ∧ w.cell? ⟨g, k * 4 + 2, none⟩ = some (.int .i64 (Wh.moveAt s.moves k).dst) ∧ w.cell? ⟨g, k * 4 + 3, none⟩ = some (.int .i64 (Wh.moveAt s.moves k).n) := by
  obtain ⟨g, c, cur, h1, h2, h3, h4⟩ := h.moves.at (fun _ => rfl) hk
  have e : s.moves[k] = Wh.moveAt s.moves k := by simp [Wh.moveAt, hk]
  rw [e] at h4
  exact ⟨g, c, cur, h1, h2, h3, h4 0 _ rfl, h4 1 _ rfl, h4 2 _ rfl, h4 3 _ rfl⟩
/-- The cells of an order. -/
theorem orderAt (h : OwnSt w base V s) {o : Nat} (ho : o < s.orders.length) : ∃ g c cur, V.orders = .slice (some ⟨g, 0, none⟩) s.orders.length c ∧ base ≤ g ∧ Blk w g 73 cur ∧
    w.cell? ⟨g, o * 2, none⟩ = some (.int .i64 (s.order o).kind) ∧ w.cell? ⟨g, o * 2 + 1, none⟩ = some (V.line o) := by
  have hol : o < (ords s.orders V.lines).length := by rw [ords_length h.llen]; exact ho
  obtain ⟨g, c, cur, h1, h2, h3, h4⟩ := h.orders.at (fun _ => rfl) hol
  have e : (ords s.orders V.lines)[o] = ((s.order o).kind, V.line o) := by
    have := ords_get h.llen ho
    rw [List.getElem?_eq_getElem hol] at this
    exact Option.some.inj this
  rw [e] at h4
  rw [ords_length h.llen] at h1
  exact ⟨g, c, cur, h1, h2, h3, h4 0 _ rfl, h4 1 _ rfl⟩
/-- The cells of a line. -/
theorem lineAt (h : OwnSt w base V s) {o k : Nat} (ho : o < s.orders.length) (hk : k < (s.order o).lines.length) : ∃ g c cur, V.line o = .slice (some ⟨g, 0, none⟩) (s.order o).lines.length c ∧ base ≤ g ∧ Blk w g 75 cur ∧
    w.cell? ⟨g, k * 4, none⟩ = some (.int .i64 (s.line o k).good) ∧ w.cell? ⟨g, k * 4 + 1, none⟩ = some (.int .i64 (s.line o k).want) ∧ w.cell? ⟨g, k * 4 + 2, none⟩ = some (.int .i64 (s.line o k).got) ∧ w.cell? ⟨g, k * 4 + 3, none⟩ = some (.int .i64 (s.line o k).back) := by
  obtain ⟨g, c, cur, h1, h2, h3, h4⟩ := (h.line o ho).at (fun _ => rfl) hk
  have e : (s.order o).lines[k] = s.line o k := by unfold State.line; simp [Wh.lineAt, hk]
  rw [e] at h4
  exact ⟨g, c, cur, h1, h2, h3, h4 0 _ rfl, h4 1 _ rfl, h4 2 _ rfl, h4 3 _ rfl⟩
end OwnSt
end Wh
namespace Wh
open Go Go.RowKit Go.Shelf Go.Proofs
attribute [local go_sem] run_indexAt_letter evL_tmp evL_const evL_func
theorem Own.at_block {α : Type} {enc : α → List Value} {size : Nat} {e : TypeId} {w : World} {base g : Nat} {cs : Array Value} {l : List α} (hb : base ≤ g) (hg : w.heap[g]? = some (.cells cs e)) (hc : cs.toList = l.flatMap enc)
    (hk : ∀ x, (enc x).length = size) (hl : l.length ≤ 1000000) : Own enc size e w base (.slice (some ⟨g, 0, none⟩) l.length l.length) l := by
  refine ⟨by rw [flat_length enc size hk], .inr ⟨g, l.length, cs, rfl, hb, hg, Nat.le_refl _, by unfold maxLen; omega, ?_, ?_⟩⟩
  · rw [← Array.length_toList, hc, flat_length enc size hk]
  · rw [hc, ← flat_length enc size hk, List.take_length]

def busyS : State := ⟨[[9, 0], [3, 0], [0, 6]], [⟨1, [⟨0, 6, 1, 0⟩, ⟨1, 9, 0, 3⟩]⟩, ⟨0, [⟨0, 4, 0, 0⟩]⟩], [⟨0, 0, 0, 2⟩, ⟨0, 0, 1, 3⟩, ⟨0, 1, 2, 6⟩], [⟨0, 0, 1, 5⟩], [13, 6], [1, 0], [0, 0]⟩
def busyV (n : Nat) : SV :=
  ⟨.slice (some ⟨n + 4, 0, none⟩) 3 3, .slice (some ⟨n + 7, 0, none⟩) 2 2, .slice (some ⟨n + 8, 0, none⟩) 3 3, .slice (some ⟨n + 9, 0, none⟩) 1 1, .slice (some ⟨n + 10, 0, none⟩) 2 2, .slice (some ⟨n + 11, 0, none⟩) 2 2, .slice (some ⟨n + 12, 0, none⟩) 2 2,
   [.slice (some ⟨n + 1, 0, none⟩) 2 2, .slice (some ⟨n + 2, 0, none⟩) 2 2, .slice (some ⟨n + 3, 0, none⟩) 2 2], [.slice (some ⟨n + 5, 0, none⟩) 2 2, .slice (some ⟨n + 6, 0, none⟩) 1 1]⟩
def busyO (n : Nat) : List Obj := [
  .cells (busyV n).cells.toArray 31,
  .cells #[.int .i64 9, .int .i64 0] 3, .cells #[.int .i64 3, .int .i64 0] 3, .cells #[.int .i64 0, .int .i64 6] 3,
  .cells #[.slice (some ⟨n + 1, 0, none⟩) 2 2, .slice (some ⟨n + 2, 0, none⟩) 2 2, .slice (some ⟨n + 3, 0, none⟩) 2 2] 23,
  .cells #[.int .i64 0, .int .i64 6, .int .i64 1, .int .i64 0, .int .i64 1, .int .i64 9, .int .i64 0, .int .i64 3] 75,
  .cells #[.int .i64 0, .int .i64 4, .int .i64 0, .int .i64 0] 75,
  .cells #[.int .i64 1, .slice (some ⟨n + 5, 0, none⟩) 2 2, .int .i64 0, .slice (some ⟨n + 6, 0, none⟩) 1 1] 73,
  .cells #[.int .i64 0, .int .i64 0, .int .i64 0, .int .i64 2, .int .i64 0, .int .i64 0, .int .i64 1, .int .i64 3, .int .i64 0, .int .i64 1, .int .i64 2, .int .i64 6] 87,
  .cells #[.int .i64 0, .int .i64 0, .int .i64 1, .int .i64 5] 92,
  .cells #[.int .i64 13, .int .i64 6] 3, .cells #[.int .i64 1, .int .i64 0] 3, .cells #[.int .i64 0, .int .i64 0] 3]
def lay (w : World) (os : List Obj) : World := { w with heap := w.heap ++ os.toArray }
theorem lay_alloc (w : World) (os : List Obj) (o : Obj) : (lay w os).alloc o = lay w (os ++ [o]) := by
  unfold lay World.alloc
  simp
theorem lay_nil (w : World) : lay w [] = w := by unfold lay; simp
theorem lay_foldl (w : World) (os : List Obj) : lay w os = os.foldl World.alloc w := by
  suffices h : ∀ (os ps : List Obj), lay w (ps ++ os) = os.foldl World.alloc (lay w ps) by
    have := h os []
    rwa [lay_nil] at this
  intro os
  induction os with
  | nil => intro ps; simp
  | cons o os ih =>
    intro ps
    have := ih (ps ++ [o])
    rw [List.foldl_cons, lay_alloc, ← this]
    simp
theorem lay_below (w : World) (os : List Obj) : Below w.heap.size w (lay w os) := below_wld w w.drawn os.toArray
theorem lay_at (w : World) (os : List Obj) (i : Nat) : (lay w os).heap[w.heap.size + i]? = os[i]? := by
  unfold lay
  rw [Array.getElem?_append_right (by omega)]
  simp
theorem busyOwn (w : World) : OwnSt (lay w (busyO w.heap.size)) w.heap.size (busyV w.heap.size) busyS := by
  have H := lay_at w (busyO w.heap.size)
  refine ⟨Own.at_block (by omega) (H 4) rfl (fun _ => rfl) (by simp [busyV]), rfl, fun b hb => ?_, Own.at_block (by omega) (H 7) rfl (fun _ => rfl) (by simp [ords, busyS, busyV]), rfl, fun o ho => ?_, Own.at_block (by omega) (H 8) rfl (fun _ => rfl) (by decide), Own.at_block (by omega) (H 9) rfl (fun _ => rfl) (by decide),
    Own.at_block (by omega) (H 10) rfl (fun _ => rfl) (by decide), Own.at_block (by omega) (H 11) rfl (fun _ => rfl) (by decide), Own.at_block (by omega) (H 12) rfl (fun _ => rfl) (by decide), ?_, ?_⟩
  · match b, hb with
    | 0, _ => exact Own.at_block (l := ([9, 0] : List Int)) (by omega) (H 1) rfl (fun _ => rfl) (by decide)
    | 1, _ => exact Own.at_block (l := ([3, 0] : List Int)) (by omega) (H 2) rfl (fun _ => rfl) (by decide)
    | 2, _ => exact Own.at_block (l := ([0, 6] : List Int)) (by omega) (H 3) rfl (fun _ => rfl) (by decide)
    | b + 3, hb => simp [busyS] at hb; omega
  · match o, ho with
    | 0, _ => exact Own.at_block (l := ([⟨0, 6, 1, 0⟩, ⟨1, 9, 0, 3⟩] : List Line)) (by omega) (H 5) rfl (fun _ => rfl) (by decide)
    | 1, _ => exact Own.at_block (l := ([⟨0, 4, 0, 0⟩] : List Line)) (by omega) (H 6) rfl (fun _ => rfl) (by decide)
    | o + 2, ho => simp [busyS] at ho; omega
  · unfold apartL busyV
    simp [Value.ownBlock]
  · unfold apartL busyV
    simp [Value.ownBlock]

set_option maxHeartbeats 4000000 in
theorem lBusy (w : World) : Calls Try.prog 51 #[] w fun e w' => ∃ V, e = .returned V.val ∧ OwnSt w' w.heap.size V busyS ∧ Below w.heap.size w w' := by
  go_enter Try.func51, Try.ntmps51
  go_wp2_with fail
  have h1 := busyOwn w
  have h2 := lay_below w (busyO w.heap.size)
  rw [lay_foldl] at h1 h2
  refine bodyPost_ret (v := (busyV w.heap.size).val) ?_ rfl ⟨busyV w.heap.size, rfl, h1, h2⟩
  simp [results, Try.results51, go_sem, SV.val, busyV]

def small (s : State) : Bool := decide (s.on.length ≤ 1000) && s.on.all (fun r => decide (r.length ≤ 1000)) && decide (s.orders.length ≤ 1000) && s.orders.all (fun o => decide (o.lines.length ≤ 1000)) && decide (s.holds.length ≤ 1000) && decide (s.moves.length ≤ 1000) && decide (s.inn.length ≤ 1000) && decide (s.out.length ≤ 1000) && decide (s.fixed.length ≤ 1000)
/-- It reads as the state, however that is. -/
theorem OwnSt.view0 {w : World} {base : Nat} {V : SV} {s : State} (h : OwnSt w base V s) (hs : small s = true) : StateV w w.heap.size V.val s := by
  unfold small at hs
  simp only [Bool.and_eq_true, decide_eq_true_eq, List.all_eq_true] at hs
  obtain ⟨⟨⟨⟨⟨⟨⟨⟨s1, s2⟩, s3⟩, s4⟩, s5⟩, s6⟩, s7⟩, s8⟩, s9⟩ := hs
  obtain ⟨A, c, hv, _, hA⟩ := h.on.sl (by rw [h.rlen]; omega)
  obtain ⟨A1, c1, hv1, _, hA1⟩ := h.orders.sl (by rw [ords_length h.llen]; omega)
  refine ⟨_, _, _, _, _, _, _, rfl, ⟨A, c, V.rows, by rw [hv, h.rlen], by omega, h.rlen, ?_, fun i x hi => ?_⟩, ⟨A1, c1, V.lines, by rw [hv1, ords_length h.llen], by omega, h.llen, ?_, fun i x hi => ?_⟩, h.holds.sl (by omega), h.moves.sl (by omega), h.inn.sl (by omega), h.out.sl (by omega), h.fixed.sl (by omega)⟩
  · have : V.rows.flatMap (fun u => [u]) = V.rows := by simp
    rw [this] at hA
    exact hA
  · have hil : i < s.on.length := (List.getElem?_eq_some_iff.1 hi).1
    have hx : rowAt s.on i = x := by rw [rowAt_eq hil]; exact (List.getElem?_eq_some_iff.1 hi).2
    have := s2 x (List.mem_of_getElem? hi)
    exact ⟨_, h.rowGet hil, by rw [← hx]; exact (h.row i hil).sl (by rw [hx]; omega)⟩
  · have e : (s.orders.zip V.lines).flatMap (fun x => [Value.int .i64 x.1.kind, x.2]) = (ords s.orders V.lines).flatMap cOrd := by
      unfold ords cOrd
      rw [List.zip_eq_zipWith, List.flatMap_def, List.flatMap_def, List.map_zipWith, List.map_zipWith]
    rw [e]
    exact hA1
  · have hil : i < s.orders.length := (List.getElem?_eq_some_iff.1 hi).1
    have hx : s.order i = x := by unfold State.order; rw [orderAt_eq hil]; exact (List.getElem?_eq_some_iff.1 hi).2
    have := s4 x (List.mem_of_getElem? hi)
    exact ⟨_, h.lineGet hil, by rw [← hx]; exact (h.line i hil).sl (by rw [hx]; omega)⟩
/-- A hold's number of pieces. -/
theorem OwnSt.setHoldN {w : World} {base : Nat} {V : SV} {s : State} (h : OwnSt w base V s) {k : Nat} (hk : k < s.holds.length) {g n c : Nat} (hv : V.holds = .slice (some ⟨g, 0, none⟩) n c) (q : Int) :
    OwnSt (w.setCell ⟨g, k * 4 + 3, none⟩ (.int .i64 q)) base V { s with holds := s.holds.set k { hold s.holds k with n := q } } ∧ w.grownBy (w.setCell ⟨g, k * 4 + 3, none⟩ (.int .i64 q)) (some g) := by
  have hl := h.holds
  rw [hv] at hl
  obtain ⟨o1, hg⟩ := hl.store (i := k) (fun _ => rfl) hk (show 3 < 4 by omega) (y := { hold s.holds k with n := q }) (u := .int .i64 q) (by unfold hold; simp [hk, cHold])
  rw [← hv] at o1
  have hob : V.holds.ownBlock = some g := by rw [hv]; rfl
  exact ⟨h.wroteHolds (by rw [hob]; exact hg) o1, hg⟩
def busyX : State := { busyS with holds := [⟨0, 0, 0, 5⟩, ⟨0, 0, 1, 3⟩, ⟨0, 1, 2, 6⟩] }
def busyY : State := { busyS with orders := [⟨1, [⟨0, 6, 1, 0⟩, ⟨1, 9, 0, 3⟩]⟩, ⟨3, [⟨0, 4, 0, 0⟩]⟩] }

theorem checkAt {s : State} {c : Int} (h : checkState yardP s = c) (w : World) (v vs : Value) (hp : PlanV w w.heap.size v yardP) (hv : StateV w w.heap.size vs s) :
    Calls Try.prog 24 #[v, vs] w fun e w' => e = .returned (.int .i64 c) ∧ Below w.heap.size w w' := by
  have := sCheck w v vs yardP s hp hv
  rwa [h] at this
theorem busyAvail (w : World) (v vs : Value) (hp : PlanV w w.heap.size v yardP) (hv : StateV w w.heap.size vs busyS) :
    Calls Try.prog 26 #[v, vs, .int .i64 0, .int .i64 0] w fun e w' => e = .returned (.tuple #[.int .i64 2, .int .i64 0]) ∧ Below w.heap.size w w' := by
  have := sAvail w v vs yardP busyS 0 0 hp hv
  rwa [show availE yardP busyS 0 0 = (2, 0) by decide] at this
theorem busyFree (w : World) (v vs : Value) (hp : PlanV w w.heap.size v yardP) (hv : StateV w w.heap.size vs busyS) :
    Calls Try.prog 27 #[v, vs, .int .i64 1] w fun e w' => e = .returned (.tuple #[.int .i64 14, .int .i64 0]) ∧ Below w.heap.size w w' := by
  have := sFree w v vs yardP busyS 1 hp hv
  rwa [show freeE yardP busyS 1 = (14, 0) by decide] at this
theorem beginYard (w : World) (v : Value) (hp : PlanV w w.heap.size v yardP) :
    Calls Try.prog 20 #[v] w fun e w' => ∃ V, e = .returned (.tuple #[V.val, .int .i64 0]) ∧ OwnSt w' w.heap.size V (begin yardP) ∧ Below w.heap.size w w' := by
  have := sBegin w v yardP hp
  rwa [show checkPlan yardP = 0 by decide, if_pos rfl] at this

set_option maxHeartbeats 4000000 in
set_option maxRecDepth 100000 in
theorem stateBegun (w : World) : Calls Try.prog 23 #[] w fun e w' => e = .returned (.bool true) ∧ Below w.heap.size w w' := by
  go_enter Try.func23, Try.ntmps23
  go_wp2_with fail
  refine (lYard _).mono ?_
  rintro e W1 ⟨u1, rfl, hu1, hb1⟩
  go_wp2_with fail
  refine (beginYard _ _ hu1).mono ?_
  rintro e W2 ⟨V1, rfl, ho1, hb2⟩
  have hB2 := hb1.trans (hb2.mono hb1.size)
  have hone3 := (ho1).one
  have hnb3 := newBox (W2)
  go_wp2_with (refine wpList_store_state rfl (.tmp 1) (.tmp 12) rfl rfl (World.heap (W2)).size nilSV V1 hnb3 rfl rfl hone3 (fun w3 hbox3 hg3 => ?_); refine Hid.out ?_)
  unfold Hid
  have hbb3 := newBelow hg3
  have hbl3 := hbox3.lt
  clear hone3 hnb3 hg3
  have hB3 := hB2.trans (hbb3.mono hB2.size)
  have hv1 := Lib.hid ((ho1.below hbb3).view0 (by decide))
  clear ho1 hb1 hb2 hu1
  go_wp2_with fail
  refine (lYard _).mono ?_
  rintro e W4 ⟨u4, rfl, hu4, hb4⟩
  go_wp2_with fail
  refine (lBusy _).mono ?_
  rintro e W5 ⟨V5, rfl, ho5, hb5⟩
  go_wp2_with fail
  refine (busyAvail _ _ _ (hu4.grow hb5) (ho5.view0 (by decide))).mono ?_
  rintro e W6 ⟨rfl, hb6⟩
  have hb36 := hb4.trans ((hb5.trans (hb6.mono hb5.size)).mono hb4.size)
  clear hb4 hb5 hb6 hu4 ho5
  go_wp2_with fail
  refine (lYard _).mono ?_
  rintro e W7 ⟨u7, rfl, hu7, hb7⟩
  go_wp2_with fail
  refine (lBusy _).mono ?_
  rintro e W8 ⟨V8, rfl, ho8, hb8⟩
  go_wp2_with fail
  refine (busyFree _ _ _ (hu7.grow hb8) (ho8.view0 (by decide))).mono ?_
  rintro e W9 ⟨rfl, hb9⟩
  have hb39 := hb36.trans ((hb7.trans ((hb8.trans (hb9.mono hb8.size)).mono hb7.size)).mono hb36.size)
  clear hb7 hb8 hb9 hu7 ho8
  go_wp2_with fail
  refine (lBusy _).mono ?_
  rintro e W10 ⟨V10, rfl, ho10, hb10⟩
  have hone11 := (ho10).one
  have hnb11 := newBox (W10)
  go_wp2_with (refine wpList_store_state rfl (.tmp 7) (.tmp 26) rfl rfl (World.heap (W10)).size nilSV V10 hnb11 rfl rfl hone11 (fun w11 hbox11 hg11 => ?_); refine Hid.out ?_)
  unfold Hid
  have hbb11 := newBelow hg11
  have hbl11 := hbox11.lt
  clear hone11 hnb11 hg11
  have ho11 := ho10.below hbb11
  have hB11 := hb39.trans ((hb10.trans (hbb11.mono hb10.size)).mono hb39.size)
  obtain ⟨g, c, cur, hvh, hbg, hblk, _, _, _, hc3⟩ := ho11.holdAt (k := 0) (by decide)
  have hcb := hbox11.cells.2.2.1
  rw [hvh] at hcb
  have hfr := hblk.frozen (0 * 4 + 3)
  have hst := ho11.setHoldN (k := 0) (by decide) hvh 5
  have hg39 : w3.heap.size ≤ g := Nat.le_trans hb39.size hbg
  have hlen : (busyS.holds.length : Int) = 3 := rfl
  simp only [Nat.zero_mul, Nat.zero_add] at hc3 hfr hst
  have hBx : Below w3.heap.size w3 (w11.setCell ⟨g, 3, none⟩ (.int .i64 5)) := hB11.setCell hg39 _
  have hbox12 := hbox11.off hst.2 hblk (by decide)
  have hv7 := Lib.hid (show StateV _ _ _ busyX from hst.1.view0 (by decide))
  clear hst ho10 ho11 hvh hB11 hbox11 hb10
  go_wp2_with fail
  clear hcb hc3 hfr
  have hbox12' := Lib.hid hbox12
  have hz12 : W10.heap.size < (w11.setCell ⟨g, 3, none⟩ (.int .i64 5)).heap.size := by simpa using hbl11
  generalize w11.setCell ⟨g, 3, none⟩ (.int .i64 5) = w12 at hBx hbox12' hv7 hz12 ⊢
  clear hblk hlen hbox12 hbb11 hbl11 hg39 hbg
  refine (lBusy _).mono ?_
  rintro e W13 ⟨V13, rfl, ho13, hb13⟩
  have hone14 := (ho13).one
  have hnb14 := newBox (W13)
  go_wp2_with (refine wpList_store_state rfl (.tmp 8) (.tmp 31) rfl rfl (World.heap (W13)).size nilSV V13 hnb14 rfl rfl hone14 (fun w14 hbox14 hg14 => ?_); refine Hid.out ?_)
  unfold Hid
  have hbb14 := newBelow hg14
  have hbl14 := hbox14.lt
  clear hone14 hnb14 hg14
  have ho14 := ho13.below hbb14
  have hB14 := hb13.trans (hbb14.mono hb13.size)
  obtain ⟨g2, c2, cur2, hvo, hbg2, hblk2, hck, _⟩ := ho14.orderAt (o := 1) (by decide)
  have hcb := hbox14.cells.2.1
  rw [hvo] at hcb
  have hfr := hblk2.frozen (1 * 2)
  have hst := ho14.setKind (o := 1) (by decide) hvo 3
  have hlen : (busyS.orders.length : Int) = 2 := rfl
  simp only [Nat.one_mul] at hck hfr hst
  have hBy : Below w12.heap.size w12 (w14.setCell ⟨g2, 2, none⟩ (.int .i64 3)) := hB14.setCell hbg2 _
  have hbox15 := hbox14.off hst.2 hblk2 (by decide)
  have hv8 := Lib.hid (show StateV _ _ _ busyY from hst.1.view0 (by decide))
  clear hst ho13 ho14 hvo hB14 hbox14 hb13
  go_wp2_with fail
  clear hcb hck hfr
  have hbox15' := Lib.hid hbox15
  have hz15 : W13.heap.size < (w14.setCell ⟨g2, 2, none⟩ (.int .i64 3)).heap.size := by simpa using hbl14
  generalize w14.setCell ⟨g2, 2, none⟩ (.int .i64 3) = w15 at hBy hbox15' hv8 hz15 ⊢
  clear hblk2 hlen hbox15 hbb14 hbl14 hbg2
  have hB15 := hBx.trans (hBy.mono hBx.size)
  have hbox3' := Lib.hid hbox3
  clear hbox3 hb36 hb39
  refine wp_region_opsG 43 [fun gq w' => (fun v w' => PlanV w' w'.heap.size v yardP) (gq 36) w', fun gq w' => (fun v w' => StateV w' w'.heap.size v busyS) (gq 37) w', fun gq w' => (fun v w' => v = .int .i64 0) (gq 38) w', fun gq _ => gq 39 = .bool true, fun gq _ => gq 40 = .bool true, fun gq w' => (fun v w' => PlanV w' w'.heap.size v yardP) (gq 41) w', fun gq _ => gq 42 = .agg #[V1.on, V1.orders, V1.holds, V1.moves, V1.inn, V1.out, V1.fixed], fun gq w' => (fun v w' => v = .int .i64 0) (gq 43) w', fun gq _ => gq 44 = .bool true, fun gq _ => gq 45 = .bool true, fun gq _ => gq 46 = .bool true, fun gq w' => (fun v w' => PlanV w' w'.heap.size v yardP) (gq 47) w', fun gq _ => gq 48 = .agg #[V10.on, V10.orders, V10.holds, V10.moves, V10.inn, V10.out, V10.fixed], fun gq w' => (fun v w' => v = .int .i64 7) (gq 49) w', fun gq _ => gq 50 = .bool true, fun gq _ => gq 51 = .bool true, fun gq _ => gq 52 = .bool true, fun gq w' => (fun v w' => PlanV w' w'.heap.size v yardP) (gq 53) w', fun gq _ => gq 54 = .agg #[V13.on, V13.orders, V13.holds, V13.moves, V13.inn, V13.out, V13.fixed], fun gq w' => (fun v w' => v = .int .i64 1) (gq 55) w', fun gq _ => gq 56 = .bool true, fun gq _ => gq 57 = .bool true, fun gq _ => gq 58 = .bool true, fun gq _ => gq 59 = .int .i64 0, fun gq _ => gq 60 = .bool true, fun gq _ => gq 61 = .bool true, fun gq _ => gq 62 = .bool true, fun gq _ => gq 63 = .int .i64 0, fun gq _ => gq 64 = .bool true, fun gq _ => gq 65 = .bool true, fun gq _ => gq 66 = .bool true, fun gq _ => gq 67 = .int .i64 0, fun gq _ => gq 68 = .bool true, fun gq _ => gq 69 = .bool true, fun gq _ => gq 70 = .bool true, fun gq _ => gq 71 = .int .i64 2, fun gq _ => gq 72 = .bool true, fun gq _ => gq 73 = .bool true, fun gq _ => gq 74 = .bool true, fun gq _ => gq 75 = .int .i64 14, fun gq _ => gq 76 = .bool true, fun gq _ => gq 77 = .bool true, fun gq _ => gq 0 = .bool true] (by kernel_rfl) (by kernel_rfl) rfl (by kernel_rfl) ?_ (fun f w2 hb2 hR => ?_)
  simp only [List.take_succ_cons, List.take_zero]
  refine OpsG.cons (OpG.one (d := 36) (p := (fun v w' => PlanV w' w'.heap.size v yardP)) rfl rfl (fun v w1 w2 h hb => h.grow hb) (fun gq w' ho hd => trivial) (fun gq w' hb ho hd => ?_)) ?_
  · unfold OpRel
    go_simp
    refine (lYard w').mono ?_
    rintro e w2 ⟨u, rfl, hu, hb2⟩
    exact ⟨_, rfl, hu, hb2⟩
  refine OpsG.cons (OpG.one (d := 37) (p := (fun v w' => StateV w' w'.heap.size v busyS)) rfl rfl (fun v w1 w2 h hb => h.grow hb) (fun gq w' ho hd => trivial) (fun gq w' hb ho hd => ?_)) ?_
  · unfold OpRel
    go_simp
    refine (lBusy w').mono ?_
    rintro e w2 ⟨V, rfl, ho, hb2⟩
    exact ⟨_, rfl, ho.view0 (by decide), hb2⟩
  refine OpsG.cons (OpG.one (d := 38) (p := (fun v w' => v = .int .i64 0)) rfl rfl (fun v w1 w2 h hb => h) (fun gq w' ho hd => trivial) (fun gq w' hb ho hd => ?_)) ?_
  · have e36 : PlanV w' w'.heap.size (gq 36) yardP := hd ⟨0, .data⟩ (by simp) rfl (by decide)
    have e37 : StateV w' w'.heap.size (gq 37) busyS := hd ⟨1, .data⟩ (by simp) rfl (by decide)
    unfold OpRel
    go_simp
    refine (checkAt (show checkState yardP busyS = 0 by decide) w' _ _ e36 e37).mono ?_
    rintro e w2 ⟨rfl, hb2⟩
    exact ⟨_, rfl, rfl, hb2⟩
  refine OpsG.cons (OpG.val rfl rfl (fun gq w' ho hd => trivial) (fun gq w' hb ho hd => ?_)) ?_
  · have e38 : (gq 38) = .int .i64 0 := hd ⟨2, .data⟩ (by simp) rfl (by decide)
    go_simp
  refine OpsG.cons (OpG.val rfl rfl (fun gq w' ho hd => trivial) (fun gq w' hb ho hd => ?_)) ?_
  · have e39 : gq 39 = .bool true := hd ⟨3, .data⟩ (by simp) rfl (by decide)
    go_simp
  refine OpsG.cons (OpG.one (d := 41) (p := (fun v w' => PlanV w' w'.heap.size v yardP)) rfl rfl (fun v w1 w2 h hb => h.grow hb) (fun gq w' ho hd => ⟨_, rfl, hd ⟨4, .guard⟩ (by simp) rfl (by decide)⟩) (fun gq w' hb ho hd => ?_)) ?_
  · unfold OpRel
    go_simp
    refine (lYard w').mono ?_
    rintro e w2 ⟨u, rfl, hu, hb2⟩
    exact ⟨_, rfl, hu, hb2⟩
  refine OpsG.cons (OpG.val rfl rfl (fun gq w' ho hd => ⟨_, rfl, hd ⟨4, .guard⟩ (by simp) rfl (by decide)⟩) (fun gq w' hb ho hd => ?_)) ?_
  · have e1 := ho 1 rfl
    obtain ⟨p0, p1, p2, p3, p4, p5, p6⟩ := (hbox3'.out.below (hB15.trans (hb.mono hB15.size)) hbl3).cells
    go_simp
  refine OpsG.cons (OpG.one (d := 43) (p := (fun v w' => v = .int .i64 0)) rfl rfl (fun v w1 w2 h hb => h) (fun gq w' ho hd => ⟨_, rfl, hd ⟨4, .guard⟩ (by simp) rfl (by decide)⟩) (fun gq w' hb ho hd => ?_)) ?_
  · have e41 : PlanV w' w'.heap.size (gq 41) yardP := hd ⟨5, .data⟩ (by simp) rfl (by decide)
    have e42 : gq 42 = .agg #[V1.on, V1.orders, V1.holds, V1.moves, V1.inn, V1.out, V1.fixed] := hd ⟨6, .data⟩ (by simp) rfl (by decide)
    have hv := hv1.out.grow (hB15.trans (hb.mono hB15.size))
    unfold OpRel
    go_simp
    refine (checkAt (show checkState yardP (begin yardP) = 0 by decide) w' _ _ e41 hv).mono ?_
    rintro e w2 ⟨rfl, hb2⟩
    exact ⟨_, rfl, rfl, hb2⟩
  refine OpsG.cons (OpG.val rfl rfl (fun gq w' ho hd => ⟨_, rfl, hd ⟨4, .guard⟩ (by simp) rfl (by decide)⟩) (fun gq w' hb ho hd => ?_)) ?_
  · have e43 : (gq 43) = .int .i64 0 := hd ⟨7, .data⟩ (by simp) rfl (by decide)
    go_simp
  refine OpsG.cons (OpG.val rfl rfl (fun gq w' ho hd => trivial) (fun gq w' hb ho hd => ?_)) ?_
  · have e40 : gq 40 = .bool true := hd ⟨4, .data⟩ (by simp) rfl (by decide)
    have e44 : gq 44 = .bool true := hd ⟨8, .data⟩ (by simp) rfl (by decide)
    go_simp
  refine OpsG.cons (OpG.val rfl rfl (fun gq w' ho hd => trivial) (fun gq w' hb ho hd => ?_)) ?_
  · have e45 : gq 45 = .bool true := hd ⟨9, .data⟩ (by simp) rfl (by decide)
    go_simp
  refine OpsG.cons (OpG.one (d := 47) (p := (fun v w' => PlanV w' w'.heap.size v yardP)) rfl rfl (fun v w1 w2 h hb => h.grow hb) (fun gq w' ho hd => ⟨_, rfl, hd ⟨10, .guard⟩ (by simp) rfl (by decide)⟩) (fun gq w' hb ho hd => ?_)) ?_
  · unfold OpRel
    go_simp
    refine (lYard w').mono ?_
    rintro e w2 ⟨u, rfl, hu, hb2⟩
    exact ⟨_, rfl, hu, hb2⟩
  refine OpsG.cons (OpG.val rfl rfl (fun gq w' ho hd => ⟨_, rfl, hd ⟨10, .guard⟩ (by simp) rfl (by decide)⟩) (fun gq w' hb ho hd => ?_)) ?_
  · have e7 := ho 7 rfl
    obtain ⟨p0, p1, p2, p3, p4, p5, p6⟩ := (hbox12'.out.below (hBy.trans (hb.mono hBy.size)) hz12).cells
    go_simp
  refine OpsG.cons (OpG.one (d := 49) (p := (fun v w' => v = .int .i64 7)) rfl rfl (fun v w1 w2 h hb => h) (fun gq w' ho hd => ⟨_, rfl, hd ⟨10, .guard⟩ (by simp) rfl (by decide)⟩) (fun gq w' hb ho hd => ?_)) ?_
  · have e47 : PlanV w' w'.heap.size (gq 47) yardP := hd ⟨11, .data⟩ (by simp) rfl (by decide)
    have e48 : gq 48 = .agg #[V10.on, V10.orders, V10.holds, V10.moves, V10.inn, V10.out, V10.fixed] := hd ⟨12, .data⟩ (by simp) rfl (by decide)
    have hv := hv7.out.grow (hBy.trans (hb.mono hBy.size))
    unfold OpRel
    go_simp
    refine (checkAt (show checkState yardP busyX = 7 by decide) w' _ _ e47 hv).mono ?_
    rintro e w2 ⟨rfl, hb2⟩
    exact ⟨_, rfl, rfl, hb2⟩
  refine OpsG.cons (OpG.val rfl rfl (fun gq w' ho hd => ⟨_, rfl, hd ⟨10, .guard⟩ (by simp) rfl (by decide)⟩) (fun gq w' hb ho hd => ?_)) ?_
  · have e49 : (gq 49) = .int .i64 7 := hd ⟨13, .data⟩ (by simp) rfl (by decide)
    go_simp
  refine OpsG.cons (OpG.val rfl rfl (fun gq w' ho hd => trivial) (fun gq w' hb ho hd => ?_)) ?_
  · have e46 : gq 46 = .bool true := hd ⟨10, .data⟩ (by simp) rfl (by decide)
    have e50 : gq 50 = .bool true := hd ⟨14, .data⟩ (by simp) rfl (by decide)
    go_simp
  refine OpsG.cons (OpG.val rfl rfl (fun gq w' ho hd => trivial) (fun gq w' hb ho hd => ?_)) ?_
  · have e51 : gq 51 = .bool true := hd ⟨15, .data⟩ (by simp) rfl (by decide)
    go_simp
  refine OpsG.cons (OpG.one (d := 53) (p := (fun v w' => PlanV w' w'.heap.size v yardP)) rfl rfl (fun v w1 w2 h hb => h.grow hb) (fun gq w' ho hd => ⟨_, rfl, hd ⟨16, .guard⟩ (by simp) rfl (by decide)⟩) (fun gq w' hb ho hd => ?_)) ?_
  · unfold OpRel
    go_simp
    refine (lYard w').mono ?_
    rintro e w2 ⟨u, rfl, hu, hb2⟩
    exact ⟨_, rfl, hu, hb2⟩
  refine OpsG.cons (OpG.val rfl rfl (fun gq w' ho hd => ⟨_, rfl, hd ⟨16, .guard⟩ (by simp) rfl (by decide)⟩) (fun gq w' hb ho hd => ?_)) ?_
  · have e8 := ho 8 rfl
    obtain ⟨p0, p1, p2, p3, p4, p5, p6⟩ := (hbox15'.out.below hb hz15).cells
    go_simp
  refine OpsG.cons (OpG.one (d := 55) (p := (fun v w' => v = .int .i64 1)) rfl rfl (fun v w1 w2 h hb => h) (fun gq w' ho hd => ⟨_, rfl, hd ⟨16, .guard⟩ (by simp) rfl (by decide)⟩) (fun gq w' hb ho hd => ?_)) ?_
  · have e53 : PlanV w' w'.heap.size (gq 53) yardP := hd ⟨17, .data⟩ (by simp) rfl (by decide)
    have e54 : gq 54 = .agg #[V13.on, V13.orders, V13.holds, V13.moves, V13.inn, V13.out, V13.fixed] := hd ⟨18, .data⟩ (by simp) rfl (by decide)
    have hv := hv8.out.grow hb
    unfold OpRel
    go_simp
    refine (checkAt (show checkState yardP busyY = 1 by decide) w' _ _ e53 hv).mono ?_
    rintro e w2 ⟨rfl, hb2⟩
    exact ⟨_, rfl, rfl, hb2⟩
  refine OpsG.cons (OpG.val rfl rfl (fun gq w' ho hd => ⟨_, rfl, hd ⟨16, .guard⟩ (by simp) rfl (by decide)⟩) (fun gq w' hb ho hd => ?_)) ?_
  · have e55 : (gq 55) = .int .i64 1 := hd ⟨19, .data⟩ (by simp) rfl (by decide)
    go_simp
  refine OpsG.cons (OpG.val rfl rfl (fun gq w' ho hd => trivial) (fun gq w' hb ho hd => ?_)) ?_
  · have e52 : gq 52 = .bool true := hd ⟨16, .data⟩ (by simp) rfl (by decide)
    have e56 : gq 56 = .bool true := hd ⟨20, .data⟩ (by simp) rfl (by decide)
    go_simp
  refine OpsG.cons (OpG.val rfl rfl (fun gq w' ho hd => trivial) (fun gq w' hb ho hd => ?_)) ?_
  · have e57 : gq 57 = .bool true := hd ⟨21, .data⟩ (by simp) rfl (by decide)
    go_simp
  refine OpsG.cons (OpG.val rfl rfl (fun gq w' ho hd => ⟨_, rfl, hd ⟨22, .guard⟩ (by simp) rfl (by decide)⟩) (fun gq w' hb ho hd => ?_)) ?_
  · have e2 := ho 2 rfl
    go_simp
  refine OpsG.cons (OpG.val rfl rfl (fun gq w' ho hd => ⟨_, rfl, hd ⟨22, .guard⟩ (by simp) rfl (by decide)⟩) (fun gq w' hb ho hd => ?_)) ?_
  · have e59 : gq 59 = .int .i64 0 := hd ⟨23, .data⟩ (by simp) rfl (by decide)
    go_simp
  refine OpsG.cons (OpG.val rfl rfl (fun gq w' ho hd => trivial) (fun gq w' hb ho hd => ?_)) ?_
  · have e58 : gq 58 = .bool true := hd ⟨22, .data⟩ (by simp) rfl (by decide)
    have e60 : gq 60 = .bool true := hd ⟨24, .data⟩ (by simp) rfl (by decide)
    go_simp
  refine OpsG.cons (OpG.val rfl rfl (fun gq w' ho hd => trivial) (fun gq w' hb ho hd => ?_)) ?_
  · have e61 : gq 61 = .bool true := hd ⟨25, .data⟩ (by simp) rfl (by decide)
    go_simp
  refine OpsG.cons (OpG.val rfl rfl (fun gq w' ho hd => ⟨_, rfl, hd ⟨26, .guard⟩ (by simp) rfl (by decide)⟩) (fun gq w' hb ho hd => ?_)) ?_
  · have e4 := ho 4 rfl
    go_simp
  refine OpsG.cons (OpG.val rfl rfl (fun gq w' ho hd => ⟨_, rfl, hd ⟨26, .guard⟩ (by simp) rfl (by decide)⟩) (fun gq w' hb ho hd => ?_)) ?_
  · have e63 : gq 63 = .int .i64 0 := hd ⟨27, .data⟩ (by simp) rfl (by decide)
    go_simp
  refine OpsG.cons (OpG.val rfl rfl (fun gq w' ho hd => trivial) (fun gq w' hb ho hd => ?_)) ?_
  · have e62 : gq 62 = .bool true := hd ⟨26, .data⟩ (by simp) rfl (by decide)
    have e64 : gq 64 = .bool true := hd ⟨28, .data⟩ (by simp) rfl (by decide)
    go_simp
  refine OpsG.cons (OpG.val rfl rfl (fun gq w' ho hd => trivial) (fun gq w' hb ho hd => ?_)) ?_
  · have e65 : gq 65 = .bool true := hd ⟨29, .data⟩ (by simp) rfl (by decide)
    go_simp
  refine OpsG.cons (OpG.val rfl rfl (fun gq w' ho hd => ⟨_, rfl, hd ⟨30, .guard⟩ (by simp) rfl (by decide)⟩) (fun gq w' hb ho hd => ?_)) ?_
  · have e6 := ho 6 rfl
    go_simp
  refine OpsG.cons (OpG.val rfl rfl (fun gq w' ho hd => ⟨_, rfl, hd ⟨30, .guard⟩ (by simp) rfl (by decide)⟩) (fun gq w' hb ho hd => ?_)) ?_
  · have e67 : gq 67 = .int .i64 0 := hd ⟨31, .data⟩ (by simp) rfl (by decide)
    go_simp
  refine OpsG.cons (OpG.val rfl rfl (fun gq w' ho hd => trivial) (fun gq w' hb ho hd => ?_)) ?_
  · have e66 : gq 66 = .bool true := hd ⟨30, .data⟩ (by simp) rfl (by decide)
    have e68 : gq 68 = .bool true := hd ⟨32, .data⟩ (by simp) rfl (by decide)
    go_simp
  refine OpsG.cons (OpG.val rfl rfl (fun gq w' ho hd => trivial) (fun gq w' hb ho hd => ?_)) ?_
  · have e69 : gq 69 = .bool true := hd ⟨33, .data⟩ (by simp) rfl (by decide)
    go_simp
  refine OpsG.cons (OpG.val rfl rfl (fun gq w' ho hd => ⟨_, rfl, hd ⟨34, .guard⟩ (by simp) rfl (by decide)⟩) (fun gq w' hb ho hd => ?_)) ?_
  · have e3 := ho 3 rfl
    go_simp
  refine OpsG.cons (OpG.val rfl rfl (fun gq w' ho hd => ⟨_, rfl, hd ⟨34, .guard⟩ (by simp) rfl (by decide)⟩) (fun gq w' hb ho hd => ?_)) ?_
  · have e71 : gq 71 = .int .i64 2 := hd ⟨35, .data⟩ (by simp) rfl (by decide)
    go_simp
  refine OpsG.cons (OpG.val rfl rfl (fun gq w' ho hd => trivial) (fun gq w' hb ho hd => ?_)) ?_
  · have e70 : gq 70 = .bool true := hd ⟨34, .data⟩ (by simp) rfl (by decide)
    have e72 : gq 72 = .bool true := hd ⟨36, .data⟩ (by simp) rfl (by decide)
    go_simp
  refine OpsG.cons (OpG.val rfl rfl (fun gq w' ho hd => trivial) (fun gq w' hb ho hd => ?_)) ?_
  · have e73 : gq 73 = .bool true := hd ⟨37, .data⟩ (by simp) rfl (by decide)
    go_simp
  refine OpsG.cons (OpG.val rfl rfl (fun gq w' ho hd => ⟨_, rfl, hd ⟨38, .guard⟩ (by simp) rfl (by decide)⟩) (fun gq w' hb ho hd => ?_)) ?_
  · have e5 := ho 5 rfl
    go_simp
  refine OpsG.cons (OpG.val rfl rfl (fun gq w' ho hd => ⟨_, rfl, hd ⟨38, .guard⟩ (by simp) rfl (by decide)⟩) (fun gq w' hb ho hd => ?_)) ?_
  · have e75 : gq 75 = .int .i64 14 := hd ⟨39, .data⟩ (by simp) rfl (by decide)
    go_simp
  refine OpsG.cons (OpG.val rfl rfl (fun gq w' ho hd => trivial) (fun gq w' hb ho hd => ?_)) ?_
  · have e74 : gq 74 = .bool true := hd ⟨38, .data⟩ (by simp) rfl (by decide)
    have e76 : gq 76 = .bool true := hd ⟨40, .data⟩ (by simp) rfl (by decide)
    go_simp
  refine OpsG.cons (OpG.val rfl rfl (fun gq w' ho hd => trivial) (fun gq w' hb ho hd => ?_)) ?_
  · have e77 : gq 77 = .bool true := hd ⟨41, .data⟩ (by simp) rfl (by decide)
    go_simp
  exact OpsG.nil
  obtain ⟨r36, r37, r38, r39, r40, r41, r42, r43, r44, r45, r46, r47, r48, r49, r50, r51, r52, r53, r54, r55, r56, r57, r58, r59, r60, r61, r62, r63, r64, r65, r66, r67, r68, r69, r70, r71, r72, r73, r74, r75, r76, r77, r0, _⟩ := hR
  replace r36 : PlanV w2 w2.heap.size (f 36) yardP := r36
  replace r37 : StateV w2 w2.heap.size (f 37) busyS := r37
  replace r38 : (f 38) = .int .i64 0 := r38
  replace r41 : PlanV w2 w2.heap.size (f 41) yardP := r41
  replace r43 : (f 43) = .int .i64 0 := r43
  replace r47 : PlanV w2 w2.heap.size (f 47) yardP := r47
  replace r49 : (f 49) = .int .i64 7 := r49
  replace r53 : PlanV w2 w2.heap.size (f 53) yardP := r53
  replace r55 : (f 55) = .int .i64 1 := r55
  simp only [fillA, fillT, List.take_succ_cons, List.take_zero, List.drop_succ_cons, List.drop_zero, List.filterMap_cons, List.filterMap_nil, List.foldl_cons, List.foldl_nil, List.setIfInBounds_toArray, List.set_cons_zero, List.set_cons_succ, r38, r39, r40, r42, r43, r44, r45, r46, r48, r49, r50, r51, r52, r54, r55, r56, r57, r58, r59, r60, r61, r62, r63, r64, r65, r66, r67, r68, r69, r70, r71, r72, r73, r74, r75, r76, r77, r0]
  clear r38 r39 r40 r42 r43 r44 r45 r46 r48 r49 r50 r51 r52 r54 r55 r56 r57 r58 r59 r60 r61 r62 r63 r64 r65 r66 r67 r68 r69 r70 r71 r72 r73 r74 r75 r76 r77 r0
  refine wpList_nil ?_
  go_wp2_with fail
  go_ret
  exact ⟨rfl, (hB3.trans (hB15.mono hB3.size)).trans (hb2.mono (hB3.trans (hB15.mono hB3.size)).size)⟩
end Wh
namespace Wh
open Go Go.RowKit Go.Shelf Go.Proofs
attribute [local go_sem] run_indexAt_letter evL_tmp evL_const evL_func
section
variable {p : Plan} {s : State} {b g n e : Int} (w : World) (v vs : Value) (hp : PlanV w w.heap.size v p) (hv : StateV w w.heap.size vs s)
include hp hv
theorem sAvailAt (h : availE p s b g = (n, e)) : Calls Try.prog 26 #[v, vs, .int .i64 b, .int .i64 g] w fun x w' => x = .returned (.tuple #[.int .i64 n, .int .i64 e]) ∧ Below w.heap.size w w' := by
  have := sAvail w v vs p s b g hp hv
  rwa [h] at this
theorem sFreeAt (h : freeE p s b = (n, e)) : Calls Try.prog 27 #[v, vs, .int .i64 b] w fun x w' => x = .returned (.tuple #[.int .i64 n, .int .i64 e]) ∧ Below w.heap.size w w' := by
  have := sFree w v vs p s b hp hv
  rwa [h] at this
theorem rCheckAt (h : checkState p s = e) : Calls Try.prog 16 #[v, vs] w fun x w' => x = .returned (.int .i64 e) ∧ Below w.heap.size w w' := by
  have := rCheckState w v vs p s hp hv
  rwa [h] at this
end
section
variable {p : Plan} {on : List (List Int)} {b g e : Int} (w : World) (v vo : Value) (hp : PlanV w w.heap.size v p) (ho : SlSl cInt w w.heap.size vo on)
include hp ho
theorem rErrorAt (h : shelfError p on b g = e) : Calls Try.prog 28 #[v, vo, .int .i64 b, .int .i64 g] w fun x w' => x = .returned (.int .i64 e) ∧ Below w.heap.size w w' := by
  have := rShelfError w v vo p on b g hp ho
  rwa [h] at this
end
theorem error_yes {p : Plan} {s : State} {b g : Int} (h : checkState p s = 0) (h2 : (isBin p b && isGood p g) = true) : shelfError p s.on b g = 0 := by
  unfold shelfError
  have := (checkState_zero.1 h).1.shelf
  rw [this, h2]
  rfl
theorem error_no {p : Plan} {s : State} {b g : Int} (h : checkState p s = 0) (h2 : (isBin p b && isGood p g) = false) : shelfError p s.on b g = 3 := by
  unfold shelfError
  have := (checkState_zero.1 h).1.shelf
  rw [this, h2]
  rfl
set_option maxHeartbeats 4000000 in
set_option maxRecDepth 100000 in
theorem stateTellsWalk (w : World) (v vs : Value) (p : Plan) (s : State) (b g : Int) (hp : PlanV w w.heap.size v p) (hv : StateV w w.heap.size vs s) :
    Calls Try.prog 5 #[v, vs, .int .i64 b, .int .i64 g] w fun e w' => e = .returned (.bool true) ∧ Below w.heap.size w w' := by
  by_cases hc : checkState p s = 0
  · have hsn := Lib.hid (checkState_zero.1 hc).1
    cases hb : isBin p b
    · have hA := Lib.hid (availE_no (b := b) (g := g) hc (by rw [hb]; rfl))
      have hF := Lib.hid (freeE_no (b := b) hc hb)
      have hE := Lib.hid (error_no (b := b) (g := g) hc (by rw [hb]; rfl))
      have hE0 := Lib.hid (error_no (b := b) (g := 0) hc (by rw [hb]; rfl))
      have hc' := Lib.hid hc
      clear hb hc
      obtain ⟨Ab, cb, As, cs, rfl, hP', hBn, hSz, hlb, hls⟩ := openPl hp
      obtain ⟨A0, c0, A1, c1, A2, c2, A3, c3, A4, c4, A5, c5, A6, c6, rfl, hV, hN, hO, hH, hM, hI, hU, hX, hl0, hl1, hl2, hl3, hl4, hl5, hl6⟩ := openOne hv
      go_enter Try.func5, Try.ntmps5
      go_wp2_with fail
      obtain ⟨W0, hW0, hb0, hsz0, hsz1, hsE, hK⟩ := boxesTwo w p s Ab cb As cs A0 c0 A1 c1 A2 c2 A3 c3 A4 c4 A5 c5 A6 c6
      rw [hW0]
      clear hW0
      obtain ⟨⟨y0, y1⟩, x0, x1, x2, x3, x4, x5, x6, hbz0, hbz1⟩ := hK.out W0 (Below.refl W0.heap.size W0)
      go_wp2_with fail
      clear y0 y1 x0 x1 x2 x3 x4 x5 x6 hbz0 hbz1
      refine (sAvailAt _ _ _ (hP'.out _ hb0) (hV.out _ hb0) hA.out).mono ?_
      rintro e W1 ⟨rfl, h1⟩
      have h0W1 : Below W0.heap.size W0 W1 := Below.trans (Below.refl W0.heap.size W0) (h1.mono (Below.size (Below.refl W0.heap.size W0)))
      have hBW1 := hb0.trans (h0W1.mono hb0.size)
      obtain ⟨⟨y0, y1⟩, x0, x1, x2, x3, x4, x5, x6, hbz0, hbz1⟩ := hK.out W1 (h0W1)
      go_wp2_with fail
      clear y0 y1 x0 x1 x2 x3 x4 x5 x6 hbz0 hbz1
      refine (sFreeAt _ _ _ (hP'.out _ hBW1) (hV.out _ hBW1) hF.out).mono ?_
      rintro e W2 ⟨rfl, h2⟩
      have h0W2 : Below W0.heap.size W0 W2 := Below.trans h0W1 (h2.mono (Below.size h0W1))
      have hBW2 := hb0.trans (h0W2.mono hb0.size)
      obtain ⟨⟨y0, y1⟩, x0, x1, x2, x3, x4, x5, x6, hbz0, hbz1⟩ := hK.out W2 (h0W2)
      go_wp2_with fail
      clear y0 y1 x0 x1 x2 x3 x4 x5 x6 hbz0 hbz1
      refine (rCheckAt _ _ _ (hP'.out _ hBW2) (hV.out _ hBW2) hc'.out).mono ?_
      rintro e W3 ⟨rfl, h3⟩
      have h0W3 : Below W0.heap.size W0 W3 := Below.trans h0W2 (h3.mono (Below.size h0W2))
      have hBW3 := hb0.trans (h0W3.mono hb0.size)
      obtain ⟨⟨y0, y1⟩, x0, x1, x2, x3, x4, x5, x6, hbz0, hbz1⟩ := hK.out W3 (h0W3)
      go_wp2_with fail
      clear y0 y1 x0 x1 x2 x3 x4 x5 x6 hbz0 hbz1
      refine (rErrorAt _ _ _ (hP'.out _ hBW3) (hN.out _ hBW3) hE.out).mono ?_
      rintro e W4 ⟨rfl, h4⟩
      have h0W4 : Below W0.heap.size W0 W4 := Below.trans h0W3 (h4.mono (Below.size h0W3))
      have hBW4 := hb0.trans (h0W4.mono hb0.size)
      obtain ⟨⟨y0, y1⟩, x0, x1, x2, x3, x4, x5, x6, hbz0, hbz1⟩ := hK.out W4 (h0W4)
      go_wp2_with fail
      clear y0 y1 x0 x1 x2 x3 x4 x5 x6 hbz0 hbz1
      refine (rErrorAt _ _ _ (hP'.out _ hBW4) (hN.out _ hBW4) hE0.out).mono ?_
      rintro e W5 ⟨rfl, h5⟩
      have h0W5 : Below W0.heap.size W0 W5 := Below.trans h0W4 (h5.mono (Below.size h0W4))
      have hBW5 := hb0.trans (h0W5.mono hb0.size)
      obtain ⟨⟨y0, y1⟩, x0, x1, x2, x3, x4, x5, x6, hbz0, hbz1⟩ := hK.out W5 (h0W5)
      go_wp2_with fail
      clear y0 y1 x0 x1 x2 x3 x4 x5 x6 hbz0 hbz1
      refine (stateBegun _).mono ?_
      rintro e W9 ⟨rfl, h9⟩
      go_wp2_with fail
      go_ret
      exact ⟨rfl, (hBW5).trans (h9.mono (Below.size hBW5))⟩
    · have hbb := Lib.hid (isBin_iff.1 hb)
      have hF := Lib.hid (freeE_yes (b := b) hc hb)
      have hE0 := Lib.hid (error_yes (b := b) (g := 0) hc (by rw [good0 hc, hb]))
      cases hg : isGood p g
      · have hA := Lib.hid (availE_no (b := b) (g := g) hc (by rw [hb, hg]; rfl))
        have hE := Lib.hid (error_no (b := b) (g := g) hc (by rw [hb, hg]; rfl))
        have hc' := Lib.hid hc
        clear hb hc hg
        obtain ⟨Ab, cb, As, cs, rfl, hP', hBn, hSz, hlb, hls⟩ := openPl hp
        obtain ⟨A0, c0, A1, c1, A2, c2, A3, c3, A4, c4, A5, c5, A6, c6, rfl, hV, hN, hO, hH, hM, hI, hU, hX, hl0, hl1, hl2, hl3, hl4, hl5, hl6⟩ := openOne hv
        go_enter Try.func5, Try.ntmps5
        go_wp2_with fail
        obtain ⟨W0, hW0, hb0, hsz0, hsz1, hsE, hK⟩ := boxesTwo w p s Ab cb As cs A0 c0 A1 c1 A2 c2 A3 c3 A4 c4 A5 c5 A6 c6
        rw [hW0]
        clear hW0
        obtain ⟨⟨y0, y1⟩, x0, x1, x2, x3, x4, x5, x6, hbz0, hbz1⟩ := hK.out W0 (Below.refl W0.heap.size W0)
        go_wp2_with fail
        clear y0 y1 x0 x1 x2 x3 x4 x5 x6 hbz0 hbz1
        refine (sAvailAt _ _ _ (hP'.out _ hb0) (hV.out _ hb0) hA.out).mono ?_
        rintro e W1 ⟨rfl, h1⟩
        have h0W1 : Below W0.heap.size W0 W1 := Below.trans (Below.refl W0.heap.size W0) (h1.mono (Below.size (Below.refl W0.heap.size W0)))
        have hBW1 := hb0.trans (h0W1.mono hb0.size)
        obtain ⟨⟨y0, y1⟩, x0, x1, x2, x3, x4, x5, x6, hbz0, hbz1⟩ := hK.out W1 (h0W1)
        go_wp2_with fail
        clear y0 y1 x0 x1 x2 x3 x4 x5 x6 hbz0 hbz1
        refine (sFreeAt _ _ _ (hP'.out _ hBW1) (hV.out _ hBW1) hF.out).mono ?_
        rintro e W2 ⟨rfl, h2⟩
        have h0W2 : Below W0.heap.size W0 W2 := Below.trans h0W1 (h2.mono (Below.size h0W1))
        have hBW2 := hb0.trans (h0W2.mono hb0.size)
        obtain ⟨⟨y0, y1⟩, x0, x1, x2, x3, x4, x5, x6, hbz0, hbz1⟩ := hK.out W2 (h0W2)
        go_wp2_with fail
        clear y0 y1 x0 x1 x2 x3 x4 x5 x6 hbz0 hbz1
        refine (rCheckAt _ _ _ (hP'.out _ hBW2) (hV.out _ hBW2) hc'.out).mono ?_
        rintro e W3 ⟨rfl, h3⟩
        have h0W3 : Below W0.heap.size W0 W3 := Below.trans h0W2 (h3.mono (Below.size h0W2))
        have hBW3 := hb0.trans (h0W3.mono hb0.size)
        obtain ⟨⟨y0, y1⟩, x0, x1, x2, x3, x4, x5, x6, hbz0, hbz1⟩ := hK.out W3 (h0W3)
        go_wp2_with fail
        clear y0 y1 x0 x1 x2 x3 x4 x5 x6 hbz0 hbz1
        refine (rErrorAt _ _ _ (hP'.out _ hBW3) (hN.out _ hBW3) hE.out).mono ?_
        rintro e W4 ⟨rfl, h4⟩
        have h0W4 : Below W0.heap.size W0 W4 := Below.trans h0W3 (h4.mono (Below.size h0W3))
        have hBW4 := hb0.trans (h0W4.mono hb0.size)
        obtain ⟨⟨y0, y1⟩, x0, x1, x2, x3, x4, x5, x6, hbz0, hbz1⟩ := hK.out W4 (h0W4)
        go_wp2_with fail
        clear y0 y1 x0 x1 x2 x3 x4 x5 x6 hbz0 hbz1
        refine (rErrorAt _ _ _ (hP'.out _ hBW4) (hN.out _ hBW4) hE0.out).mono ?_
        rintro e W5 ⟨rfl, h5⟩
        have h0W5 : Below W0.heap.size W0 W5 := Below.trans h0W4 (h5.mono (Below.size h0W4))
        have hBW5 := hb0.trans (h0W5.mono hb0.size)
        obtain ⟨⟨y0, y1⟩, x0, x1, x2, x3, x4, x5, x6, hbz0, hbz1⟩ := hK.out W5 (h0W5)
        go_wp2_with fail
        clear y0 y1 x0 x1 x2 x3 x4 x5 x6 hbz0 hbz1
        refine (rFreeOf _ _ _ p s b (hP'.out _ hBW5) (hV.out _ hBW5) hsn.out hbb.out).mono ?_
        rintro e W6 ⟨rfl, h6⟩
        have h0W6 : Below W0.heap.size W0 W6 := Below.trans h0W5 (h6.mono (Below.size h0W5))
        have hBW6 := hb0.trans (h0W6.mono hb0.size)
        obtain ⟨⟨y0, y1⟩, x0, x1, x2, x3, x4, x5, x6, hbz0, hbz1⟩ := hK.out W6 (h0W6)
        go_wp2_with fail
        clear y0 y1 x0 x1 x2 x3 x4 x5 x6 hbz0 hbz1
        refine (stateBegun _).mono ?_
        rintro e W9 ⟨rfl, h9⟩
        go_wp2_with fail
        go_ret
        exact ⟨rfl, (hBW6).trans (h9.mono (Below.size hBW6))⟩
      · have hgg := Lib.hid (isGood_iff.1 hg)
        have hA := Lib.hid (availE_yes (b := b) (g := g) hc (by rw [hb, hg]; rfl))
        have hE := Lib.hid (error_yes (b := b) (g := g) hc (by rw [hb, hg]; rfl))
        have hc' := Lib.hid hc
        clear hb hc hg
        obtain ⟨Ab, cb, As, cs, rfl, hP', hBn, hSz, hlb, hls⟩ := openPl hp
        obtain ⟨A0, c0, A1, c1, A2, c2, A3, c3, A4, c4, A5, c5, A6, c6, rfl, hV, hN, hO, hH, hM, hI, hU, hX, hl0, hl1, hl2, hl3, hl4, hl5, hl6⟩ := openOne hv
        go_enter Try.func5, Try.ntmps5
        go_wp2_with fail
        obtain ⟨W0, hW0, hb0, hsz0, hsz1, hsE, hK⟩ := boxesTwo w p s Ab cb As cs A0 c0 A1 c1 A2 c2 A3 c3 A4 c4 A5 c5 A6 c6
        rw [hW0]
        clear hW0
        obtain ⟨⟨y0, y1⟩, x0, x1, x2, x3, x4, x5, x6, hbz0, hbz1⟩ := hK.out W0 (Below.refl W0.heap.size W0)
        go_wp2_with fail
        clear y0 y1 x0 x1 x2 x3 x4 x5 x6 hbz0 hbz1
        refine (sAvailAt _ _ _ (hP'.out _ hb0) (hV.out _ hb0) hA.out).mono ?_
        rintro e W1 ⟨rfl, h1⟩
        have h0W1 : Below W0.heap.size W0 W1 := Below.trans (Below.refl W0.heap.size W0) (h1.mono (Below.size (Below.refl W0.heap.size W0)))
        have hBW1 := hb0.trans (h0W1.mono hb0.size)
        obtain ⟨⟨y0, y1⟩, x0, x1, x2, x3, x4, x5, x6, hbz0, hbz1⟩ := hK.out W1 (h0W1)
        go_wp2_with fail
        clear y0 y1 x0 x1 x2 x3 x4 x5 x6 hbz0 hbz1
        refine (sFreeAt _ _ _ (hP'.out _ hBW1) (hV.out _ hBW1) hF.out).mono ?_
        rintro e W2 ⟨rfl, h2⟩
        have h0W2 : Below W0.heap.size W0 W2 := Below.trans h0W1 (h2.mono (Below.size h0W1))
        have hBW2 := hb0.trans (h0W2.mono hb0.size)
        obtain ⟨⟨y0, y1⟩, x0, x1, x2, x3, x4, x5, x6, hbz0, hbz1⟩ := hK.out W2 (h0W2)
        go_wp2_with fail
        clear y0 y1 x0 x1 x2 x3 x4 x5 x6 hbz0 hbz1
        refine (rCheckAt _ _ _ (hP'.out _ hBW2) (hV.out _ hBW2) hc'.out).mono ?_
        rintro e W3 ⟨rfl, h3⟩
        have h0W3 : Below W0.heap.size W0 W3 := Below.trans h0W2 (h3.mono (Below.size h0W2))
        have hBW3 := hb0.trans (h0W3.mono hb0.size)
        obtain ⟨⟨y0, y1⟩, x0, x1, x2, x3, x4, x5, x6, hbz0, hbz1⟩ := hK.out W3 (h0W3)
        go_wp2_with fail
        clear y0 y1 x0 x1 x2 x3 x4 x5 x6 hbz0 hbz1
        refine (rErrorAt _ _ _ (hP'.out _ hBW3) (hN.out _ hBW3) hE.out).mono ?_
        rintro e W4 ⟨rfl, h4⟩
        have h0W4 : Below W0.heap.size W0 W4 := Below.trans h0W3 (h4.mono (Below.size h0W3))
        have hBW4 := hb0.trans (h0W4.mono hb0.size)
        obtain ⟨⟨y0, y1⟩, x0, x1, x2, x3, x4, x5, x6, hbz0, hbz1⟩ := hK.out W4 (h0W4)
        go_wp2_with fail
        clear y0 y1 x0 x1 x2 x3 x4 x5 x6 hbz0 hbz1
        refine (rErrorAt _ _ _ (hP'.out _ hBW4) (hN.out _ hBW4) hE0.out).mono ?_
        rintro e W5 ⟨rfl, h5⟩
        have h0W5 : Below W0.heap.size W0 W5 := Below.trans h0W4 (h5.mono (Below.size h0W4))
        have hBW5 := hb0.trans (h0W5.mono hb0.size)
        obtain ⟨⟨y0, y1⟩, x0, x1, x2, x3, x4, x5, x6, hbz0, hbz1⟩ := hK.out W5 (h0W5)
        go_wp2_with fail
        clear y0 y1 x0 x1 x2 x3 x4 x5 x6 hbz0 hbz1
        refine (rAvailOf _ _ p s b g (hV.out _ hBW5) hsn.out hbb.out hgg.out).mono ?_
        rintro e W6 ⟨rfl, h6⟩
        have h0W6 : Below W0.heap.size W0 W6 := Below.trans h0W5 (h6.mono (Below.size h0W5))
        have hBW6 := hb0.trans (h0W6.mono hb0.size)
        obtain ⟨⟨y0, y1⟩, x0, x1, x2, x3, x4, x5, x6, hbz0, hbz1⟩ := hK.out W6 (h0W6)
        go_wp2_with fail
        clear y0 y1 x0 x1 x2 x3 x4 x5 x6 hbz0 hbz1
        refine (rFreeOf _ _ _ p s b (hP'.out _ hBW6) (hV.out _ hBW6) hsn.out hbb.out).mono ?_
        rintro e W7 ⟨rfl, h7⟩
        have h0W7 : Below W0.heap.size W0 W7 := Below.trans h0W6 (h7.mono (Below.size h0W6))
        have hBW7 := hb0.trans (h0W7.mono hb0.size)
        obtain ⟨⟨y0, y1⟩, x0, x1, x2, x3, x4, x5, x6, hbz0, hbz1⟩ := hK.out W7 (h0W7)
        go_wp2_with fail
        clear y0 y1 x0 x1 x2 x3 x4 x5 x6 hbz0 hbz1
        refine (stateBegun _).mono ?_
        rintro e W9 ⟨rfl, h9⟩
        go_wp2_with fail
        go_ret
        exact ⟨rfl, (hBW7).trans (h9.mono (Below.size hBW7))⟩
  · have hA := Lib.hid (availE_bad (b := b) (g := g) hc)
    have hF := Lib.hid (freeE_bad (b := b) hc)
    obtain ⟨c, hcc⟩ : ∃ c, checkState p s = c := ⟨_, rfl⟩
    rw [hcc] at hA hF hc
    have hzf : (c == 0) = false := by simpa using hc
    have hc' := Lib.hid hcc
    clear hc hcc
    obtain ⟨Ab, cb, As, cs, rfl, hP', hBn, hSz, hlb, hls⟩ := openPl hp
    obtain ⟨A0, c0, A1, c1, A2, c2, A3, c3, A4, c4, A5, c5, A6, c6, rfl, hV, hN, hO, hH, hM, hI, hU, hX, hl0, hl1, hl2, hl3, hl4, hl5, hl6⟩ := openOne hv
    go_enter Try.func5, Try.ntmps5
    go_wp2_with fail
    obtain ⟨W0, hW0, hb0, hsz0, hsz1, hsE, hK⟩ := boxesTwo w p s Ab cb As cs A0 c0 A1 c1 A2 c2 A3 c3 A4 c4 A5 c5 A6 c6
    rw [hW0]
    clear hW0
    obtain ⟨⟨y0, y1⟩, x0, x1, x2, x3, x4, x5, x6, hbz0, hbz1⟩ := hK.out W0 (Below.refl W0.heap.size W0)
    go_wp2_with fail
    clear y0 y1 x0 x1 x2 x3 x4 x5 x6 hbz0 hbz1
    refine (sAvailAt _ _ _ (hP'.out _ hb0) (hV.out _ hb0) hA.out).mono ?_
    rintro e W1 ⟨rfl, h1⟩
    have h0W1 : Below W0.heap.size W0 W1 := Below.trans (Below.refl W0.heap.size W0) (h1.mono (Below.size (Below.refl W0.heap.size W0)))
    have hBW1 := hb0.trans (h0W1.mono hb0.size)
    obtain ⟨⟨y0, y1⟩, x0, x1, x2, x3, x4, x5, x6, hbz0, hbz1⟩ := hK.out W1 (h0W1)
    go_wp2_with fail
    clear y0 y1 x0 x1 x2 x3 x4 x5 x6 hbz0 hbz1
    refine (sFreeAt _ _ _ (hP'.out _ hBW1) (hV.out _ hBW1) hF.out).mono ?_
    rintro e W2 ⟨rfl, h2⟩
    have h0W2 : Below W0.heap.size W0 W2 := Below.trans h0W1 (h2.mono (Below.size h0W1))
    have hBW2 := hb0.trans (h0W2.mono hb0.size)
    obtain ⟨⟨y0, y1⟩, x0, x1, x2, x3, x4, x5, x6, hbz0, hbz1⟩ := hK.out W2 (h0W2)
    go_wp2_with fail
    clear y0 y1 x0 x1 x2 x3 x4 x5 x6 hbz0 hbz1
    refine (rCheckAt _ _ _ (hP'.out _ hBW2) (hV.out _ hBW2) hc'.out).mono ?_
    rintro e W3 ⟨rfl, h3⟩
    have h0W3 : Below W0.heap.size W0 W3 := Below.trans h0W2 (h3.mono (Below.size h0W2))
    have hBW3 := hb0.trans (h0W3.mono hb0.size)
    obtain ⟨⟨y0, y1⟩, x0, x1, x2, x3, x4, x5, x6, hbz0, hbz1⟩ := hK.out W3 (h0W3)
    go_wp2_with fail
    clear y0 y1 x0 x1 x2 x3 x4 x5 x6 hbz0 hbz1
    refine (stateBegun _).mono ?_
    rintro e W9 ⟨rfl, h9⟩
    go_wp2_with fail
    go_ret
    exact ⟨rfl, (hBW3).trans (h9.mono (Below.size hBW3))⟩
end Wh
namespace Wh
open Go Go.RowKit Go.ChangeShapes Go.WideShapes Go.Deep
theorem cell_lt {w : World} {a : Addr} {v : Value} (h : w.cell? a = some v) : a.block < w.heap.size := by
  by_cases hlt : a.block < w.heap.size
  · exact hlt
  · unfold World.cell? at h
    rw [Array.getElem?_eq_none (by omega)] at h
    simp at h

section
variable {H : Type} {en : TypeId × Value → H} {P : Program} {w : World} {base : Nat} {sp : Nat → Bool} {hd : Bool}
/-- Reads, and each of its slices is within the reach. -/
def Rd (en : TypeId × Value → H) (P : Program) (w : World) (base : Nat) (sp : Nat → Bool) (hd : Bool) (t : TypeId) (cs : List Value) : Prop :=
  ∃ (n : Nat) (x : DataW H × List MemPlace), DataW.trod en P w base sp hd n t cs = some x ∧ ∀ k ∈ x.1.weights P t, k ≤ reachBytes

theorem Rd.int {t : TypeId} {cs : List Value} (ht : P.underlying t = some (.int .i64)) (h : Rd en P w base sp hd t cs) : ∃ n, cs = [.int .i64 n] := by
  obtain ⟨n, x, h, _⟩ := h
  obtain ⟨m, hm, _⟩ := DataW.trod_int ht h
  exact ⟨m, hm⟩
theorem Rd.bool {t : TypeId} {cs : List Value} (ht : P.underlying t = some .bool) (h : Rd en P w base sp hd t cs) : ∃ b, cs = [.bool b] := by
  obtain ⟨n, x, h, _⟩ := h
  obtain ⟨m, hm, _⟩ := DataW.trod_bool ht h
  exact ⟨m, hm⟩

theorem Rd.fields {t : TypeId} {fs : Array Field} {cs : List Value} (hs : P.underlying t = some (.struct fs)) (hone : oneCellFields P fs = true) (hC : P.cellsOf t = fs.size) (h : Rd en P w base sp hd t cs) :
    cs.length = fs.size ∧ ∀ (j : Nat) (f : Field), fs[j]? = some f → ∃ v, cs[j]? = some v ∧ Rd en P w base sp hd f.type [v] := by
  obtain ⟨n, x, h, hw⟩ := h
  obtain ⟨xs, m, _, hx, hlen, hxl, hf⟩ := DataW.trod_struct hs h
  rw [hC] at hlen
  refine ⟨hlen, fun j f hj => ?_⟩
  have hjl : j < fs.size := (Array.getElem?_eq_some_iff.1 hj).1
  obtain ⟨ho, hk⟩ := hone_of hone j f hj
  have h1 := hf j f hj
  rw [ho, hk, List.drop_eq_getElem_cons (by omega)] at h1
  have hys : xs[j]? = some (xs[j]'(by omega)) := List.getElem?_eq_getElem (by omega)
  refine ⟨cs[j]'(by omega), List.getElem?_eq_getElem (by omega), m, xs[j]'(by omega), by rw [← hys, ← h1]; rfl, fun k hkm => hw k ?_⟩
  rw [hx]
  simp only [DataW.weights, hs]
  refine DataW.weights_mem_each (j := j) (t := f.type) (d := (xs[j]'(by omega)).1) ?_ ?_ k hkm
  · rw [List.getElem?_map, Array.getElem?_toList, hj]; rfl
  · rw [List.getElem?_map, hys]; rfl

theorem weights_mem_all {e : TypeId} : ∀ {ds : List (DataW H)} {j : Nat} {d : DataW H}, ds[j]? = some d → ∀ n ∈ d.weights P e, n ∈ DataW.weightsAll P e ds
  | d0 :: ds, 0, d, hd, n, hn => by
    simp only [List.getElem?_cons_zero, Option.some.injEq] at hd
    subst hd
    simp only [DataW.weightsAll, List.mem_append]
    exact Or.inl hn
  | d0 :: ds, j + 1, d, hd, n, hn => by
    simp only [List.getElem?_cons_succ] at hd
    simp only [DataW.weightsAll, List.mem_append]
    exact Or.inr (weights_mem_all hd n hn)
  | [], _, _, hd, _, _ => by simp at hd

/-- A slice's elements, each by itself. -/
theorem Rd.slice {t e : TypeId} {k : Nat} {cs : List Value} (ht : P.underlying t = some (.slice e)) (hC : P.cellsOf e = k) (hB : 0 < P.bytesOf e) (h : Rd en P w base sp hd t cs) :
    ∃ (A : Option Addr) (len c : Nat), cs = [.slice A len c] ∧ len ≤ 140737488355232 ∧
      ∀ i, i < len → ∃ cs', cs'.length = k ∧ Rd en P w base sp hd e cs' ∧ ∀ j v, cs'[j]? = some v → okA A ∧ ablk A < w.heap.size ∧ w.cell? ⟨ablk A, aoff A + (i * k + j), none⟩ = some v := by
  obtain ⟨n, x, h, hw⟩ := h
  rcases open_slice ht h with ⟨rfl, _⟩ | ⟨a, len, cap, m, n', D, Pl, rfl, _, hl, _, hm, hx, hi⟩
  · exact ⟨none, 0, 0, rfl, by omega, fun i hi => by omega⟩
  · have hlm : len ≤ m := by rw [hm]; split <;> omega
    have hreach : (len + (m - len)) * P.bytesOf e ≤ reachBytes := hw _ (by rw [hx]; simp [DataW.weights, ht])
    have hspot : 0 < len → 0 < k → a.spot = none := fun h1 h2 => by
      obtain ⟨cs', hc, _⟩ := hi 0 (by omega)
      rw [hC] at hc
      obtain ⟨_, hcl, hat⟩ := World.cells?_some hc
      have hcell := hat 0 h2
      rw [List.getElem?_eq_getElem (by omega), add_add] at hcell
      have := World.cell?_spot hcell
      simpa [Addr.add] using this
    refine ⟨some a, len, cap, rfl, ?_, fun i hi' => ?_⟩
    · have h1 : len * 1 ≤ (len + (m - len)) * P.bytesOf e := Nat.mul_le_mul (by omega) hB
      simp only [reachBytes] at hreach
      omega
    · obtain ⟨cs', hc, ht'⟩ := hi i (by omega)
      rw [hC] at hc
      obtain ⟨_, hcl, hat⟩ := World.cells?_some hc
      refine ⟨cs', hcl, ⟨n', _, ht', fun q hq => hw q ?_⟩, fun j v hj => ?_⟩
      · rw [hx]
        simp only [DataW.weights, ht, List.mem_cons, List.mem_append]
        refine .inr (.inl (weights_mem_all (j := i) (d := D i) ?_ q hq))
        rw [List.getElem?_map, List.getElem?_range hi']; rfl
      · have hjl : j < k := by rw [← hcl]; exact (List.getElem?_eq_some_iff.1 hj).1
        have hcell := hat j hjl
        rw [hj, add_add] at hcell
        obtain ⟨b, off, spot⟩ := a
        obtain rfl : spot = none := hspot (by omega) (by omega)
        rw [Addr.add_lit] at hcell
        exact ⟨okA_some _ _, cell_lt (a := ⟨b, off + (i * k + j), none⟩) hcell, hcell⟩

/-- A slice whose elements are all of the form 'enc x'. -/
theorem Rd.sl {α : Type} {enc : α → List Value} {k : Nat} {t e : TypeId} {cs : List Value} [Inhabited α] (ht : P.underlying t = some (.slice e)) (hC : P.cellsOf e = k) (hB : 0 < P.bytesOf e) (hk : ∀ x, (enc x).length = k) (h0 : 0 < k)
    (hel : ∀ cs', cs'.length = k → Rd en P w base sp hd e cs' → ∃ x : α, cs' = enc x) (h : Rd en P w base sp hd t cs) : ∃ v l, cs = [v] ∧ Sl enc w w.heap.size v l := by
  obtain ⟨A, len, c, rfl, hlen, hi⟩ := h.slice ht hC hB
  obtain ⟨X, hX⟩ := choose_lt (α := α) (n := len) (p := fun i x => ∀ j v, (enc x)[j]? = some v → okA A ∧ ablk A < w.heap.size ∧ w.cell? ⟨ablk A, aoff A + (i * k + j), none⟩ = some v) (fun i hil => by
    obtain ⟨cs', h1, h2, h3⟩ := hi i hil
    obtain ⟨x, rfl⟩ := hel cs' h1 h2
    exact ⟨x, h3⟩)
  refine ⟨_, (List.range len).map X, rfl, A, c, by simp, by simpa using hlen, fun hn => ?_⟩
  have hcell : ∀ j v, (((List.range len).map X).flatMap enc)[j]? = some v → okA A ∧ ablk A < w.heap.size ∧ w.cell? ⟨ablk A, aoff A + j, none⟩ = some v := fun j v hj => by
    have hjl : j < len * k := by
      have := (List.getElem?_eq_some_iff.1 hj).1
      rw [flat_length enc k hk] at this
      simpa using this
    have hq : j / k < len := (Nat.div_lt_iff_lt_mul h0).2 hjl
    have e1 : j / k * k + j % k = j := by rw [Nat.mul_comm]; exact Nat.div_add_mod j k
    have e2 := flat_get enc k hk ((List.range len).map X) (j / k) (j % k) (X (j / k)) (by rw [List.getElem?_map, List.getElem?_range hq]; rfl) (Nat.mod_lt _ h0)
    rw [e1, hj] at e2
    have := hX (j / k) hq (j % k) v e2.symm
    rwa [e1] at this
  have hlp : 0 < (((List.range len).map X).flatMap enc).length := List.length_pos_iff.2 hn
  obtain ⟨h1, h2, _⟩ := hcell 0 _ (List.getElem?_eq_getElem hlp)
  exact ⟨h1, h2, fun j v hj => (hcell j v hj).2.2⟩

/-- A slice of one-cell elements, each with a reading of its own. -/
theorem Rd.cells {α : Type} [Inhabited α] {k : Nat} {t e : TypeId} {cs : List Value} {enc : Value → α → List Value} {Q : Value → α → Prop} (ht : P.underlying t = some (.slice e)) (hC : P.cellsOf e = k) (hB : 0 < P.bytesOf e) (hk : ∀ v x, (enc v x).length = k) (h0 : 0 < k)
    (hel : ∀ cs', cs'.length = k → Rd en P w base sp hd e cs' → ∃ (v : Value) (x : α), cs' = enc v x ∧ Q v x) (h : Rd en P w base sp hd t cs) :
    ∃ (A : Option Addr) (c : Nat) (l : List α) (vs : List Value), cs = [.slice A l.length c] ∧ l.length ≤ 140737488355232 ∧ vs.length = l.length ∧ At w w.heap.size A ((l.zip vs).flatMap fun x => enc x.2 x.1) ∧
      ∀ (i : Nat) (x : α), l[i]? = some x → ∃ u, vs[i]? = some u ∧ Q u x := by
  obtain ⟨A, len, c, rfl, hlen, hi⟩ := h.slice ht hC hB
  obtain ⟨X, hX⟩ := choose_lt (α := α × Value) (n := len) (p := fun i x => Q x.2 x.1 ∧ ∀ j v, (enc x.2 x.1)[j]? = some v → okA A ∧ ablk A < w.heap.size ∧ w.cell? ⟨ablk A, aoff A + (i * k + j), none⟩ = some v) (fun i hil => by
    obtain ⟨cs', h1, h2, h3⟩ := hi i hil
    obtain ⟨v, x, rfl, hq⟩ := hel cs' h1 h2
    exact ⟨(x, v), hq, h3⟩)
  refine ⟨A, c, (List.range len).map (fun i => (X i).1), (List.range len).map (fun i => (X i).2), by simp, by simpa using hlen, by simp, ?_, fun i x hix => ?_⟩
  · have hz : ((List.range len).map (fun i => (X i).1)).zip ((List.range len).map (fun i => (X i).2)) = (List.range len).map X := by
      rw [List.zip_map']
    rw [hz]
    intro hn
    have hcell : ∀ j v, (((List.range len).map X).flatMap fun x => enc x.2 x.1)[j]? = some v → okA A ∧ ablk A < w.heap.size ∧ w.cell? ⟨ablk A, aoff A + j, none⟩ = some v := fun j v hj => by
      have hjl : j < len * k := by
        have := (List.getElem?_eq_some_iff.1 hj).1
        rw [flat_length (fun x : α × Value => enc x.2 x.1) k (fun x => hk _ _)] at this
        simpa using this
      have hq : j / k < len := (Nat.div_lt_iff_lt_mul h0).2 hjl
      have e1 : j / k * k + j % k = j := by rw [Nat.mul_comm]; exact Nat.div_add_mod j k
      have e2 := flat_get (fun x : α × Value => enc x.2 x.1) k (fun x => hk _ _) ((List.range len).map X) (j / k) (j % k) (X (j / k)) (by rw [List.getElem?_map, List.getElem?_range hq]; rfl) (Nat.mod_lt _ h0)
      rw [e1, hj] at e2
      have := (hX (j / k) hq).2 (j % k) v e2.symm
      rwa [e1] at this
    have hlp : 0 < (((List.range len).map X).flatMap fun x => enc x.2 x.1).length := List.length_pos_iff.2 hn
    obtain ⟨h1, h2, _⟩ := hcell 0 _ (List.getElem?_eq_getElem hlp)
    exact ⟨h1, h2, fun j v hj => (hcell j v hj).2.2⟩
  · rw [List.getElem?_map] at hix
    obtain ⟨i', hi', rfl⟩ := Option.map_eq_some_iff.1 hix
    have hil : i < len := by
      have := (List.getElem?_eq_some_iff.1 hi').1
      simpa using this
    rw [List.getElem?_range hil] at hi'
    obtain rfl := Option.some.inj hi'
    exact ⟨(X i).2, by rw [List.getElem?_map, List.getElem?_range hil]; rfl, (hX i hil).1⟩

end
end Wh
namespace Wh
open Go Go.RowKit Go.ChangeShapes Go.WideShapes Go.Deep Go.Proofs
instance : Inhabited Bin := ⟨⟨false, 0, 0, 0⟩⟩
instance : Inhabited Hold := ⟨⟨0, 0, 0, 0⟩⟩

def structFields (P : Program) (t : TypeId) : Array Field := match P.underlying t with
  | some (.struct fs) => fs
  | _ => #[]
theorem fields_eq {P : Program} {t : TypeId} (h : (match P.underlying t with | some (.struct _) => true | _ => false) = true) : P.underlying t = some (.struct (structFields P t)) := by
  unfold structFields
  split at h
  · rename_i h'; rw [h']
  · cases h

theorem u_int : Try.prog.underlying 3 = some (.int .i64) := by kernel_rfl
theorem u_bool : Try.prog.underlying 4 = some .bool := by kernel_rfl
theorem u_ints : Try.prog.underlying 23 = some (.slice 3) := by kernel_rfl
theorem u_rows : Try.prog.underlying 26 = some (.slice 23) := by kernel_rfl
theorem u_bins : Try.prog.underlying 22 = some (.slice 59) := by kernel_rfl
theorem c_int : Try.prog.cellsOf 3 = 1 := by kernel_rfl
theorem c_ints : Try.prog.cellsOf 23 = 1 := by kernel_rfl
theorem b_int : 0 < Try.prog.bytesOf 3 := of_decide_eq_true (by kernel_rfl)
theorem b_ints : 0 < Try.prog.bytesOf 23 := of_decide_eq_true (by kernel_rfl)
theorem b_bin : 0 < Try.prog.bytesOf 59 := of_decide_eq_true (by kernel_rfl)
theorem s_bin : Try.prog.underlying 59 = some (.struct (structFields Try.prog 59)) := fields_eq (by kernel_rfl)
theorem o_bin : oneCellFields Try.prog (structFields Try.prog 59) = true := by kernel_rfl
theorem n_bin : (structFields Try.prog 59).size = 4 := by kernel_rfl
theorem c_bin : Try.prog.cellsOf 59 = 4 := by kernel_rfl
theorem f_bin : (structFields Try.prog 59).toList.map (·.type) = [4, 3, 3, 3] := by kernel_rfl
theorem s_plan : Try.prog.underlying 25 = some (.struct (structFields Try.prog 25)) := fields_eq (by kernel_rfl)
theorem o_plan : oneCellFields Try.prog (structFields Try.prog 25) = true := by kernel_rfl
theorem n_plan : (structFields Try.prog 25).size = 2 := by kernel_rfl
theorem c_plan : Try.prog.cellsOf 25 = 2 := by kernel_rfl
theorem f_plan : (structFields Try.prog 25).toList.map (·.type) = [22, 23] := by kernel_rfl

section
variable {H : Type} {en : TypeId × Value → H} {w : World} {base : Nat} {sp : Nat → Bool} {hd : Bool}
theorem Rd.field {P : Program} {t : TypeId} {fs : Array Field} {cs : List Value} {ts : List TypeId} (hs : P.underlying t = some (.struct fs)) (hone : oneCellFields P fs = true) (hC : P.cellsOf t = fs.size) (hf : fs.toList.map (·.type) = ts)
    (h : Rd en P w base sp hd t cs) (j : Nat) (t' : TypeId) (hj : ts[j]? = some t') : ∃ v, cs[j]? = some v ∧ Rd en P w base sp hd t' [v] := by
  subst hf
  rw [List.getElem?_map, Array.getElem?_toList] at hj
  obtain ⟨f, hf, rfl⟩ := Option.map_eq_some_iff.1 hj
  exact (h.fields hs hone hC).2 j f hf
abbrev Rt (en : TypeId × Value → H) (w : World) (base : Nat) (sp : Nat → Bool) (hd : Bool) (t : TypeId) (cs : List Value) : Prop := Rd en Try.prog w base sp hd t cs
theorem Rt.ints {cs : List Value} (h : Rt en w base sp hd 23 cs) : ∃ v l, cs = [v] ∧ Sl cInt w w.heap.size v l :=
  Rd.sl u_ints c_int b_int (fun _ => rfl) (by decide) (fun cs' _ h => h.int u_int) h
theorem Rt.rows {cs : List Value} (h : Rt en w base sp hd 26 cs) : ∃ v l, cs = [v] ∧ SlSl cInt w w.heap.size v l := by
  obtain ⟨A, c, l, vs, rfl, h1, h2, h3, h4⟩ := Rd.cells (α := List Int) (k := 1) (enc := fun v _ => [v]) (Q := fun v x => Sl cInt w w.heap.size v x) u_rows c_ints b_ints (fun _ _ => rfl) (by decide) (fun cs' _ h => by
    obtain ⟨v, l, rfl, hs⟩ := Rt.ints h
    exact ⟨v, l, rfl, hs⟩) h
  refine ⟨_, l, rfl, A, c, vs, rfl, h1, h2, ?_, h4⟩
  have : ((l.zip vs).flatMap fun x => [x.2]) = vs := by
    rw [← List.map_eq_flatMap, List.map_snd_zip]
    omega
  rwa [this] at h3
theorem Rt.bin {cs : List Value} (hl : cs.length = 4) (h : Rt en w base sp hd 59 cs) : ∃ b, cs = cBin b := by
  match cs, hl with
  | [v0, v1, v2, v3], _ =>
    obtain ⟨x0, e0, r0⟩ := h.field s_bin o_bin (c_bin.trans n_bin.symm) f_bin 0 _ rfl
    obtain ⟨x1, e1, r1⟩ := h.field s_bin o_bin (c_bin.trans n_bin.symm) f_bin 1 _ rfl
    obtain ⟨x2, e2, r2⟩ := h.field s_bin o_bin (c_bin.trans n_bin.symm) f_bin 2 _ rfl
    obtain ⟨x3, e3, r3⟩ := h.field s_bin o_bin (c_bin.trans n_bin.symm) f_bin 3 _ rfl
    obtain rfl := Option.some.inj e0
    obtain rfl := Option.some.inj e1
    obtain rfl := Option.some.inj e2
    obtain rfl := Option.some.inj e3
    obtain ⟨b0, q0⟩ := r0.bool u_bool
    obtain ⟨b1, q1⟩ := r1.int u_int
    obtain ⟨b2, q2⟩ := r2.int u_int
    obtain ⟨b3, q3⟩ := r3.int u_int
    obtain rfl := (List.cons.inj q0).1
    obtain rfl := (List.cons.inj q1).1
    obtain rfl := (List.cons.inj q2).1
    obtain rfl := (List.cons.inj q3).1
    exact ⟨⟨b0, b1, b2, b3⟩, rfl⟩
theorem Rt.bins {cs : List Value} (h : Rt en w base sp hd 22 cs) : ∃ v l, cs = [v] ∧ Sl cBin w w.heap.size v l :=
  Rd.sl u_bins c_bin b_bin (fun _ => rfl) (by decide) (fun _ hl h => Rt.bin hl h) h
theorem Rt.plan {cs : List Value} (hl : cs.length = 2) (h : Rt en w base sp hd 25 cs) : ∃ v0 v1 p, cs = [v0, v1] ∧ PlanV w w.heap.size (.agg #[v0, v1]) p := by
  match cs, hl with
  | [v0, v1], _ =>
    obtain ⟨x0, e0, r0⟩ := h.field s_plan o_plan (c_plan.trans n_plan.symm) f_plan 0 _ rfl
    obtain ⟨x1, e1, r1⟩ := h.field s_plan o_plan (c_plan.trans n_plan.symm) f_plan 1 _ rfl
    obtain rfl := Option.some.inj e0
    obtain rfl := Option.some.inj e1
    obtain ⟨_, l0, q0, hs0⟩ := Rt.bins r0
    obtain ⟨_, l1, q1, hs1⟩ := Rt.ints r1
    obtain rfl := (List.cons.inj q0).1
    obtain rfl := (List.cons.inj q1).1
    exact ⟨_, _, ⟨l0, l1⟩, rfl, _, _, rfl, hs0, hs1⟩
theorem rd_of {P : Program} {ts : List TypeId} {ds : List (DataW H)} {j : Nat} {t : TypeId} {v : Value} {d : DataW H} {ps : List MemPlace} (hsz : (DataW.weightsEach P ts ds).all (· ≤ reachBytes) = true) (ht : ts[j]? = some t) (hds : ds[j]? = some d)
    (h : DataW.Trod en P w base sp hd t v d ps) : Rd en P w base sp hd t v.cells.toList := by
  obtain ⟨n, hn⟩ := h
  exact ⟨n, _, hn, fun k hk => by simpa using List.all_eq_true.1 hsz _ (DataW.weights_mem_each ht hds k hk)⟩
set_option maxRecDepth 100000 in
theorem plan_of {b0 : Nat} {r : Reach} {v : Value} (hv : Value.okWide Try.prog w r b0 25 v) (h : Rt en w base sp hd 25 v.cells.toList) : ∃ p, PlanV w w.heap.size v p := by
  obtain ⟨cs, rfl, hsz⟩ := okWide_struct s_plan hv
  obtain ⟨l⟩ := cs
  obtain ⟨v0, v1, p, e, hp⟩ := Rt.plan (by simpa [Value.cells] using hsz.trans c_plan) h
  have e' : l = [v0, v1] := by simpa [Value.cells] using e
  subst e'
  exact ⟨p, hp⟩
end
end Wh
namespace Wh
open Go Go.RowKit Go.ChangeShapes Go.WideShapes Go.Deep Go.Proofs
theorem u_holds : Try.prog.underlying 28 = some (.slice 87) := by kernel_rfl
theorem b_hold : 0 < Try.prog.bytesOf 87 := of_decide_eq_true (by kernel_rfl)
theorem s_hold : Try.prog.underlying 87 = some (.struct (structFields Try.prog 87)) := fields_eq (by kernel_rfl)
theorem o_hold : oneCellFields Try.prog (structFields Try.prog 87) = true := by kernel_rfl
theorem n_hold : (structFields Try.prog 87).size = 4 := by kernel_rfl
theorem c_hold : Try.prog.cellsOf 87 = 4 := by kernel_rfl
theorem f_hold : (structFields Try.prog 87).toList.map (·.type) = [3, 3, 3, 3] := by kernel_rfl

section
variable {H : Type} {en : TypeId × Value → H} {w : World} {base : Nat} {sp : Nat → Bool} {hd : Bool}
theorem Rt.four_ints {t : TypeId} (s_t : Try.prog.underlying t = some (.struct (structFields Try.prog t))) (o_t : oneCellFields Try.prog (structFields Try.prog t) = true) (c_t : Try.prog.cellsOf t = (structFields Try.prog t).size)
    (f_t : (structFields Try.prog t).toList.map (·.type) = [3, 3, 3, 3]) {cs : List Value} (hl : cs.length = 4) (h : Rt en w base sp hd t cs) : ∃ a b c d : Int, cs = [.int .i64 a, .int .i64 b, .int .i64 c, .int .i64 d] := by
  match cs, hl with
  | [v0, v1, v2, v3], _ =>
    obtain ⟨x0, e0, r0⟩ := h.field s_t o_t c_t f_t 0 _ rfl
    obtain ⟨x1, e1, r1⟩ := h.field s_t o_t c_t f_t 1 _ rfl
    obtain ⟨x2, e2, r2⟩ := h.field s_t o_t c_t f_t 2 _ rfl
    obtain ⟨x3, e3, r3⟩ := h.field s_t o_t c_t f_t 3 _ rfl
    obtain rfl := Option.some.inj e0
    obtain rfl := Option.some.inj e1
    obtain rfl := Option.some.inj e2
    obtain rfl := Option.some.inj e3
    obtain ⟨b0, q0⟩ := r0.int u_int
    obtain ⟨b1, q1⟩ := r1.int u_int
    obtain ⟨b2, q2⟩ := r2.int u_int
    obtain ⟨b3, q3⟩ := r3.int u_int
    obtain rfl := (List.cons.inj q0).1
    obtain rfl := (List.cons.inj q1).1
    obtain rfl := (List.cons.inj q2).1
    obtain rfl := (List.cons.inj q3).1
    exact ⟨b0, b1, b2, b3, rfl⟩
theorem Rt.hold {cs : List Value} (hl : cs.length = 4) (h : Rt en w base sp hd 87 cs) : ∃ x, cs = cHold x := by
  obtain ⟨a, b, c, d, rfl⟩ := Rt.four_ints s_hold o_hold (c_hold.trans n_hold.symm) f_hold hl h
  exact ⟨⟨a, b, c, d⟩, rfl⟩
theorem Rt.holds {cs : List Value} (h : Rt en w base sp hd 28 cs) : ∃ v l, cs = [v] ∧ Sl cHold w w.heap.size v l :=
  Rd.sl u_holds c_hold b_hold (fun _ => rfl) (by decide) (fun _ hl h => Rt.hold hl h) h
end
end Wh
