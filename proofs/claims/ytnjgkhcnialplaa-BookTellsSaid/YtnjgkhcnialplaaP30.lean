/- Texts of the claim, joined: StateH. -/
import Derived.Test.YtnjgkhcnialplaaP26
import Derived.Test.YtnjgkhcnialplaaP27
import Derived.Test.YtnjgkhcnialplaaP29
namespace Wh
open Go Go.RowKit Go.Shelf Go.Proofs
attribute [local go_sem] run_indexAt_letter

theorem many_no {s : State} (h : 4 < s.orders.length ∨ 8 < s.moves.length ∨ (s.orders.any fun o => !within o.lines.length 1 3) = true) : manyOk s = false := by
  cases hm : manyOk s
  · rfl
  · obtain ⟨h1, h2, h3⟩ := manyOk_iff.1 hm
    rcases h with h | h | h
    · omega
    · omega
    · rw [any_not, h3] at h
      cases h
theorem many_yes {s : State} (h1 : s.orders.length ≤ 4) (h2 : s.moves.length ≤ 8) (h3 : (s.orders.any fun o => !within o.lines.length 1 3) = false) : manyOk s = true := by
  refine manyOk_iff.2 ⟨h1, h2, ?_⟩
  rw [any_not] at h3
  simpa using h3
theorem many_lines {s : State} (h : manyOk s = true) : ∀ o, o < s.orders.length → (orderAt s.orders o).lines.length ≤ 1000 := fun o ho => by
  have := within_iff.1 (all_at dOrder (manyOk_iff.1 h).2.2 ho)
  unfold orderAt
  omega

set_option maxHeartbeats 4000000 in
theorem sCheck (w : World) (v vs : Value) (p : Plan) (s : State) (hp : PlanV w w.heap.size v p) (hv : StateV w w.heap.size vs s) :
    Calls Try.prog 24 #[v, vs] w fun e w' => e = .returned (.int .i64 (checkState p s)) ∧ Below w.heap.size w w' := by
  obtain ⟨Ab, cb, As, cs, rfl, hP', hBn, hSz, hlb, hls⟩ := openPl hp
  obtain ⟨A0, c0, A1, c1, A2, c2, A3, c3, A4, c4, A5, c5, A6, c6, rfl, hV, hN, hO, hH, hM, hI, hU, hX, hl0, hl1, hl2, hl3, hl4, hl5, hl6⟩ := openOne hv
  go_enter Try.func24, Try.ntmps24
  go_wp2_with fail
  obtain ⟨W0, hW0, hb0, hsz0, hsz1, hsE, hK⟩ := boxesTwo w p s Ab cb As cs A0 c0 A1 c1 A2 c2 A3 c3 A4 c4 A5 c5 A6 c6
  rw [hW0]
  clear hW0
  obtain ⟨⟨y0, y1⟩, x0, x1, x2, x3, x4, x5, x6, hbz0, hbz1⟩ := hK.out W0 (Below.refl W0.heap.size W0)
  go_wp2_with fail
  clear y0 y1 x0 x1 x2 x3 x4 x5 x6 hbz0 hbz1
  refine (shelfCheck _ _ _ p s.on (hP'.out _ hb0) (hN.out _ hb0)).mono ?_
  rintro e W1 ⟨rfl, hb1⟩
  have hB1 := hb0.trans (hb1.mono hb0.size)
  obtain ⟨⟨y0, y1⟩, x0, x1, x2, x3, x4, x5, x6, hbz0, hbz1⟩ := hK.out W1 (hb1)
  by_cases hsh : checkShelf p s.on = 0
  · have hsh' := Lib.hid hsh
    rw [hsh]
    clear hsh
    by_cases h4 : s.orders.length ≤ 4
    · by_cases h8 : s.moves.length ≤ 8
      · go_wp2_with fail
        clear y0 y1 x0 x1 x2 x3 x4 x5 x6 hbz0 hbz1
        refine (containsFuncOrder _ _ s.orders 56 #[] (fun o => !within o.lines.length 1 3) entersBadOrder (hO.out W1 hB1) (fun j _ W hW u hu => sBadOrder _ u W hu)).mono ?_
        rintro e W2 ⟨rfl, hb2⟩
        have hb12 := hb1.trans (hb2.mono hb1.size)
        have hB2 := hb0.trans (hb12.mono hb0.size)
        obtain ⟨⟨y0, y1⟩, x0, x1, x2, x3, x4, x5, x6, hbz0, hbz1⟩ := hK.out W2 (hb12)
        cases hany : (s.orders.any fun o => !within o.lines.length 1 3)
        · have hmy := Lib.hid (many_yes h4 h8 hany)
          clear hany
          go_wp2_with fail
          clear y0 y1 x0 x1 x2 x3 x4 x5 x6 hbz0 hbz1
          refine (sFormed _ _ _ p s (hP'.out W2 hB2) (hV.out W2 hB2) (checkShelf_zero.1 hsh'.out).1 h4 (many_lines hmy.out)).mono ?_
          rintro e W3 ⟨rfl, hb3⟩
          have hb13 := hb12.trans (hb3.mono hb12.size)
          have hB3 := hb0.trans (hb13.mono hb0.size)
          obtain ⟨⟨y0, y1⟩, x0, x1, x2, x3, x4, x5, x6, hbz0, hbz1⟩ := hK.out W3 (hb13)
          cases hf : formed p s
          · have hfin := Lib.hid (checkState_form hsh'.out hmy.out hf)
            clear hf
            go_wp2_with fail
            go_ret
            exact ⟨ret_int (by rw [hfin.out]), hB3⟩
          · have hsn := Lib.hid (Sane.mk hsh'.out hmy.out hf)
            clear hf
            go_wp2_with fail
            clear y0 y1 x0 x1 x2 x3 x4 x5 x6 hbz0 hbz1
            refine (sSummed _ _ _ p s (hP'.out W3 hB3) (hV.out W3 hB3) hsn.out).mono ?_
            rintro e W4 ⟨rfl, hb4⟩
            have hB4 := hB3.trans (hb4.mono hB3.size)
            cases hq : summed p s
            · have hfin := Lib.hid (checkState_sum hsn.out hq)
              clear hq
              go_wp2_with fail
              go_ret
              exact ⟨ret_int (by rw [hfin.out]), hB4⟩
            · have hfin := Lib.hid (checkState_ok hsn.out hq)
              clear hq
              go_wp2_with fail
              go_ret
              exact ⟨ret_int (by rw [hfin.out]), hB4⟩
        · have hfin := Lib.hid (checkState_many hsh'.out (many_no (.inr (.inr hany))))
          clear hany
          go_wp2_with fail
          go_ret
          exact ⟨ret_int (by rw [hfin.out]), hB2⟩
      · have hfin := Lib.hid (checkState_many hsh'.out (many_no (.inr (.inl (by omega)))))
        go_wp2_with fail
        go_ret
        exact ⟨ret_int (by rw [hfin.out]), hB1⟩
    · have hfin := Lib.hid (checkState_many hsh'.out (many_no (.inl (by omega))))
      go_wp2_with fail
      go_ret
      exact ⟨ret_int (by rw [hfin.out]), hB1⟩
  · have hne : (checkShelf p s.on != 0) = true := by simpa using hsh
    have hfin := Lib.hid (checkState_shelf hsh)
    clear hsh
    go_wp2_with fail
    go_ret
    exact ⟨ret_int (by rw [hfin.out]), hB1⟩

set_option maxHeartbeats 4000000 in
theorem rCheckState (w : World) (v vs : Value) (p : Plan) (s : State) (hp : PlanV w w.heap.size v p) (hv : StateV w w.heap.size vs s) :
    Calls Try.prog 16 #[v, vs] w fun e w' => e = .returned (.int .i64 (checkState p s)) ∧ Below w.heap.size w w' := by
  obtain ⟨Ab, cb, As, cs, rfl, hP', hBn, hSz, hlb, hls⟩ := openPl hp
  obtain ⟨A0, c0, A1, c1, A2, c2, A3, c3, A4, c4, A5, c5, A6, c6, rfl, hV, hN, hO, hH, hM, hI, hU, hX, hl0, hl1, hl2, hl3, hl4, hl5, hl6⟩ := openOne hv
  go_enter Try.func16, Try.ntmps16
  go_wp2_with fail
  obtain ⟨W0, hW0, hb0, hsz0, hsz1, hsE, hK⟩ := boxesTwo w p s Ab cb As cs A0 c0 A1 c1 A2 c2 A3 c3 A4 c4 A5 c5 A6 c6
  rw [hW0]
  clear hW0
  obtain ⟨⟨y0, y1⟩, x0, x1, x2, x3, x4, x5, x6, hbz0, hbz1⟩ := hK.out W0 (Below.refl W0.heap.size W0)
  go_wp2_with fail
  clear y0 y1 x0 x1 x2 x3 x4 x5 x6 hbz0 hbz1
  refine (rCheckShelf _ _ _ p s.on (hP'.out _ hb0) (hN.out _ hb0)).mono ?_
  rintro e W1 ⟨rfl, hb1⟩
  have hB1 := hb0.trans (hb1.mono hb0.size)
  obtain ⟨⟨y0, y1⟩, x0, x1, x2, x3, x4, x5, x6, hbz0, hbz1⟩ := hK.out W1 (hb1)
  by_cases hsh : checkShelf p s.on = 0
  · have hsh' := Lib.hid hsh
    rw [hsh]
    clear hsh
    by_cases h4 : s.orders.length ≤ 4
    · by_cases h8 : s.moves.length ≤ 8
      · go_wp2_with fail
        go_loopw [6] (fun i wr => ∃ k : Nat, k ≤ s.orders.length ∧ i = .int .i64 k ∧ (∀ j, j < k → within (orderAt s.orders j).lines.length 1 3 = true) ∧ Below W0.heap.size W0 wr) (fun i _ => s.orders.length - (intOf i).toNat)
        case atStart => exact ⟨0, Nat.zero_le _, rfl, fun j hj => by omega, hb1⟩
        case round =>
          clear y0 y1 x0 x1 x2 x3 x4 x5 x6 hbz0 hbz1
          clear hb1 hB1
          obtain ⟨k, hk, rfl, hall, hbw⟩ := hrel
          have hall' := Lib.hid hall
          clear hall
          have hB := hb0.trans (hbw.mono hb0.size)
          obtain ⟨⟨y0, y1⟩, x0, x1, x2, x3, x4, x5, x6, hbz0, hbz1⟩ := hK.out wr (hbw)
          by_cases hlt : k < s.orders.length
          · obtain ⟨A', c', hok1, hAb1, d0, d1, hsl⟩ := (hO.out wr hB).order hlt
            cases hwi : within (orderAt s.orders k).lines.length 1 3
            · have hfin := Lib.hid (checkState_many hsh'.out (many_no (.inr (.inr (by
                rw [List.any_eq_true]
                exact ⟨orderAt s.orders k, by rw [orderAt_eq hlt]; exact List.getElem_mem hlt, by rw [hwi]; rfl⟩)))))
              go_wp2_with (go_at_call 45; refine (rWithin _ _ _ _).mono ?_; rintro e w' ⟨rfl, rfl⟩)
              go_ret
              exact ⟨ret_int (by rw [hfin.out]), hB⟩
            · have hwi' := Lib.hid hwi
              go_wp2_with (go_at_call 45; refine (rWithin _ _ _ _).mono ?_; rintro e w' ⟨rfl, rfl⟩)
              go_roundw
              case rel =>
                refine ⟨k + 1, by omega, by go_num, fun j hj => ?_, hbw⟩
                rcases Nat.lt_succ_iff_lt_or_eq.1 hj with h | rfl
                · exact hall'.out j h
                · exact hwi'.out
              case measure => simp [intOf]; omega
          · obtain rfl : k = s.orders.length := by omega
            have hmy := Lib.hid (manyOk_iff.2 ⟨h4, h8, all_of dOrder hall'.out⟩)
            clear hall'
            go_wp2_with fail
            clear y0 y1 x0 x1 x2 x3 x4 x5 x6 hbz0 hbz1
            refine (rFormed _ _ _ p s (hP'.out wr hB) (hV.out wr hB) (checkShelf_zero.1 hsh'.out).1 h4 h8 (many_lines hmy.out)).mono ?_
            rintro e W3 ⟨rfl, hb3⟩
            have hb13 := hbw.trans (hb3.mono hbw.size)
            have hB3 := hb0.trans (hb13.mono hb0.size)
            obtain ⟨⟨y0, y1⟩, x0, x1, x2, x3, x4, x5, x6, hbz0, hbz1⟩ := hK.out W3 (hb13)
            cases hf : formed p s
            · have hfin := Lib.hid (checkState_form hsh'.out hmy.out hf)
              clear hf
              go_wp2_with fail
              go_ret
              exact ⟨ret_int (by rw [hfin.out]), hB3⟩
            · have hsn := Lib.hid (Sane.mk hsh'.out hmy.out hf)
              clear hf
              go_wp2_with fail
              clear y0 y1 x0 x1 x2 x3 x4 x5 x6 hbz0 hbz1
              refine (rSummed _ _ _ p s (hP'.out W3 hB3) (hV.out W3 hB3) hsn.out).mono ?_
              rintro e W4 ⟨rfl, hb4⟩
              have hB4 := hB3.trans (hb4.mono hB3.size)
              cases hq : summed p s
              · have hfin := Lib.hid (checkState_sum hsn.out hq)
                clear hq
                go_wp2_with fail
                go_ret
                exact ⟨ret_int (by rw [hfin.out]), hB4⟩
              · have hfin := Lib.hid (checkState_ok hsn.out hq)
                clear hq
                go_wp2_with fail
                go_ret
                exact ⟨ret_int (by rw [hfin.out]), hB4⟩
      · have hfin := Lib.hid (checkState_many hsh'.out (many_no (.inr (.inl (by omega)))))
        go_wp2_with fail
        go_ret
        exact ⟨ret_int (by rw [hfin.out]), hB1⟩
    · have hfin := Lib.hid (checkState_many hsh'.out (many_no (.inl (by omega))))
      go_wp2_with fail
      go_ret
      exact ⟨ret_int (by rw [hfin.out]), hB1⟩
  · have hne : (checkShelf p s.on != 0) = true := by simpa using hsh
    have hfin := Lib.hid (checkState_shelf hsh)
    clear hsh
    go_wp2_with fail
    go_ret
    exact ⟨ret_int (by rw [hfin.out]), hB1⟩
end Wh
