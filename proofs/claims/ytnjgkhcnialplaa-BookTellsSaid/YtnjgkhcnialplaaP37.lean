/- Texts of the claim, joined: StateP, StateQ, Choose, StateR. -/
import Derived.Test.YtnjgkhcnialplaaP35
import Derived.Test.YtnjgkhcnialplaaP08
namespace Wh
open Go Go.RowKit Go.Shelf Go.Proofs
attribute [local go_sem] run_indexAt_letter evL_tmp evL_const evL_func

section
variable {p : Plan} {s : State} {b g n e : Int} (w : World) (v vs : Value) (hp : PlanV w w.heap.size v p) (hv : StateV w w.heap.size vs s)
include hp hv
theorem sAvailAt (h : availE p s b g = (n, e)) : Calls Try.prog 26 #[v, vs, .int .i64 b, .int .i64 g] w fun x w' => x = .returned (.tuple #[.int .i64 n, .int .i64 e]) ∧ Below w.heap.size w w' := by
  have := sAvail w v vs p s b g hp hv
  rwa [h] at this
theorem sFreeAt (h : freeE p s b = (n, e)) : Calls Try.prog 27 #[v, vs, .int .i64 b] w fun x w' => x = .returned (.tuple #[.int .i64 n, .int .i64 e]) ∧ Below w.heap.size w w' := by
  have := sFree w v vs p s b hp hv
  rwa [h] at this
theorem sCheckAt (h : checkState p s = e) : Calls Try.prog 24 #[v, vs] w fun x w' => x = .returned (.int .i64 e) ∧ Below w.heap.size w w' := by
  have := sCheck w v vs p s hp hv
  rwa [h] at this
theorem rCheckAt (h : checkState p s = e) : Calls Try.prog 16 #[v, vs] w fun x w' => x = .returned (.int .i64 e) ∧ Below w.heap.size w w' := by
  have := rCheckState w v vs p s hp hv
  rwa [h] at this
end
section
variable {p : Plan} {on : List (List Int)} {b g e : Int} (w : World) (v vo : Value) (hp : PlanV w w.heap.size v p) (ho : SlSl cInt w w.heap.size vo on)
include hp ho
theorem rErrorAt (h : shelfError p on b g = e) : Calls Try.prog 28 #[v, vo, .int .i64 b, .int .i64 g] w fun x w' => x = .returned (.int .i64 e) ∧ Below w.heap.size w w' := by
  have := rShelfError w v vo p on b g hp ho
  rwa [h] at this
end
theorem error_yes {p : Plan} {s : State} {b g : Int} (h : checkState p s = 0) (h2 : (isBin p b && isGood p g) = true) : shelfError p s.on b g = 0 := by
  unfold shelfError
  have := (checkState_zero.1 h).1.shelf
  rw [this, h2]
  rfl
theorem error_no {p : Plan} {s : State} {b g : Int} (h : checkState p s = 0) (h2 : (isBin p b && isGood p g) = false) : shelfError p s.on b g = 3 := by
  unfold shelfError
  have := (checkState_zero.1 h).1.shelf
  rw [this, h2]
  rfl
set_option maxHeartbeats 4000000 in
set_option maxRecDepth 100000 in
theorem stateTellsWalk (w : World) (v vs : Value) (p : Plan) (s : State) (b g : Int) (hp : PlanV w w.heap.size v p) (hv : StateV w w.heap.size vs s) :
    Calls Try.prog 5 #[v, vs, .int .i64 b, .int .i64 g] w fun e w' => e = .returned (.bool true) ∧ Below w.heap.size w w' := by
  by_cases hc : checkState p s = 0
  · have hsn := Lib.hid (checkState_zero.1 hc).1
    cases hb : isBin p b
    · have hA := Lib.hid (availE_no (b := b) (g := g) hc (by rw [hb]; rfl))
      have hF := Lib.hid (freeE_no (b := b) hc hb)
      have hE := Lib.hid (error_no (b := b) (g := g) hc (by rw [hb]; rfl))
      have hE0 := Lib.hid (error_no (b := b) (g := 0) hc (by rw [hb]; rfl))
      have hc' := Lib.hid hc
      clear hb hc
      obtain ⟨Ab, cb, As, cs, rfl, hP', hBn, hSz, hlb, hls⟩ := openPl hp
      obtain ⟨A0, c0, A1, c1, A2, c2, A3, c3, A4, c4, A5, c5, A6, c6, rfl, hV, hN, hO, hH, hM, hI, hU, hX, hl0, hl1, hl2, hl3, hl4, hl5, hl6⟩ := openOne hv
      go_enter Try.func5, Try.ntmps5
      go_wp2_with fail
      obtain ⟨W0, hW0, hb0, hsz0, hsz1, hsE, hK⟩ := boxesTwo w p s Ab cb As cs A0 c0 A1 c1 A2 c2 A3 c3 A4 c4 A5 c5 A6 c6
      rw [hW0]
      clear hW0
      obtain ⟨⟨y0, y1⟩, x0, x1, x2, x3, x4, x5, x6, hbz0, hbz1⟩ := hK.out W0 (Below.refl W0.heap.size W0)
      go_wp2_with fail
      clear y0 y1 x0 x1 x2 x3 x4 x5 x6 hbz0 hbz1
      refine (sAvailAt _ _ _ (hP'.out _ hb0) (hV.out _ hb0) hA.out).mono ?_
      rintro e W1 ⟨rfl, h1⟩
      have h0W1 : Below W0.heap.size W0 W1 := Below.trans (Below.refl W0.heap.size W0) (h1.mono (Below.size (Below.refl W0.heap.size W0)))
      have hBW1 := hb0.trans (h0W1.mono hb0.size)
      obtain ⟨⟨y0, y1⟩, x0, x1, x2, x3, x4, x5, x6, hbz0, hbz1⟩ := hK.out W1 (h0W1)
      go_wp2_with fail
      clear y0 y1 x0 x1 x2 x3 x4 x5 x6 hbz0 hbz1
      refine (sFreeAt _ _ _ (hP'.out _ hBW1) (hV.out _ hBW1) hF.out).mono ?_
      rintro e W2 ⟨rfl, h2⟩
      have h0W2 : Below W0.heap.size W0 W2 := Below.trans h0W1 (h2.mono (Below.size h0W1))
      have hBW2 := hb0.trans (h0W2.mono hb0.size)
      obtain ⟨⟨y0, y1⟩, x0, x1, x2, x3, x4, x5, x6, hbz0, hbz1⟩ := hK.out W2 (h0W2)
      go_wp2_with fail
      clear y0 y1 x0 x1 x2 x3 x4 x5 x6 hbz0 hbz1
      refine (rCheckAt _ _ _ (hP'.out _ hBW2) (hV.out _ hBW2) hc'.out).mono ?_
      rintro e W3 ⟨rfl, h3⟩
      have h0W3 : Below W0.heap.size W0 W3 := Below.trans h0W2 (h3.mono (Below.size h0W2))
      have hBW3 := hb0.trans (h0W3.mono hb0.size)
      obtain ⟨⟨y0, y1⟩, x0, x1, x2, x3, x4, x5, x6, hbz0, hbz1⟩ := hK.out W3 (h0W3)
      go_wp2_with fail
      clear y0 y1 x0 x1 x2 x3 x4 x5 x6 hbz0 hbz1
      refine (rErrorAt _ _ _ (hP'.out _ hBW3) (hN.out _ hBW3) hE.out).mono ?_
      rintro e W4 ⟨rfl, h4⟩
      have h0W4 : Below W0.heap.size W0 W4 := Below.trans h0W3 (h4.mono (Below.size h0W3))
      have hBW4 := hb0.trans (h0W4.mono hb0.size)
      obtain ⟨⟨y0, y1⟩, x0, x1, x2, x3, x4, x5, x6, hbz0, hbz1⟩ := hK.out W4 (h0W4)
      go_wp2_with fail
      clear y0 y1 x0 x1 x2 x3 x4 x5 x6 hbz0 hbz1
      refine (rErrorAt _ _ _ (hP'.out _ hBW4) (hN.out _ hBW4) hE0.out).mono ?_
      rintro e W5 ⟨rfl, h5⟩
      have h0W5 : Below W0.heap.size W0 W5 := Below.trans h0W4 (h5.mono (Below.size h0W4))
      have hBW5 := hb0.trans (h0W5.mono hb0.size)
      obtain ⟨⟨y0, y1⟩, x0, x1, x2, x3, x4, x5, x6, hbz0, hbz1⟩ := hK.out W5 (h0W5)
      go_wp2_with fail
      clear y0 y1 x0 x1 x2 x3 x4 x5 x6 hbz0 hbz1
      refine (stateBegun _).mono ?_
      rintro e W9 ⟨rfl, h9⟩
      go_wp2_with fail
      go_ret
      exact ⟨rfl, (hBW5).trans (h9.mono (Below.size hBW5))⟩
    · have hbb := Lib.hid (isBin_iff.1 hb)
      have hF := Lib.hid (freeE_yes (b := b) hc hb)
      have hE0 := Lib.hid (error_yes (b := b) (g := 0) hc (by rw [good0 hc, hb]))
      cases hg : isGood p g
      · have hA := Lib.hid (availE_no (b := b) (g := g) hc (by rw [hb, hg]; rfl))
        have hE := Lib.hid (error_no (b := b) (g := g) hc (by rw [hb, hg]; rfl))
        have hc' := Lib.hid hc
        clear hb hc hg
        obtain ⟨Ab, cb, As, cs, rfl, hP', hBn, hSz, hlb, hls⟩ := openPl hp
        obtain ⟨A0, c0, A1, c1, A2, c2, A3, c3, A4, c4, A5, c5, A6, c6, rfl, hV, hN, hO, hH, hM, hI, hU, hX, hl0, hl1, hl2, hl3, hl4, hl5, hl6⟩ := openOne hv
        go_enter Try.func5, Try.ntmps5
        go_wp2_with fail
        obtain ⟨W0, hW0, hb0, hsz0, hsz1, hsE, hK⟩ := boxesTwo w p s Ab cb As cs A0 c0 A1 c1 A2 c2 A3 c3 A4 c4 A5 c5 A6 c6
        rw [hW0]
        clear hW0
        obtain ⟨⟨y0, y1⟩, x0, x1, x2, x3, x4, x5, x6, hbz0, hbz1⟩ := hK.out W0 (Below.refl W0.heap.size W0)
        go_wp2_with fail
        clear y0 y1 x0 x1 x2 x3 x4 x5 x6 hbz0 hbz1
        refine (sAvailAt _ _ _ (hP'.out _ hb0) (hV.out _ hb0) hA.out).mono ?_
        rintro e W1 ⟨rfl, h1⟩
        have h0W1 : Below W0.heap.size W0 W1 := Below.trans (Below.refl W0.heap.size W0) (h1.mono (Below.size (Below.refl W0.heap.size W0)))
        have hBW1 := hb0.trans (h0W1.mono hb0.size)
        obtain ⟨⟨y0, y1⟩, x0, x1, x2, x3, x4, x5, x6, hbz0, hbz1⟩ := hK.out W1 (h0W1)
        go_wp2_with fail
        clear y0 y1 x0 x1 x2 x3 x4 x5 x6 hbz0 hbz1
        refine (sFreeAt _ _ _ (hP'.out _ hBW1) (hV.out _ hBW1) hF.out).mono ?_
        rintro e W2 ⟨rfl, h2⟩
        have h0W2 : Below W0.heap.size W0 W2 := Below.trans h0W1 (h2.mono (Below.size h0W1))
        have hBW2 := hb0.trans (h0W2.mono hb0.size)
        obtain ⟨⟨y0, y1⟩, x0, x1, x2, x3, x4, x5, x6, hbz0, hbz1⟩ := hK.out W2 (h0W2)
        go_wp2_with fail
        clear y0 y1 x0 x1 x2 x3 x4 x5 x6 hbz0 hbz1
        refine (rCheckAt _ _ _ (hP'.out _ hBW2) (hV.out _ hBW2) hc'.out).mono ?_
        rintro e W3 ⟨rfl, h3⟩
        have h0W3 : Below W0.heap.size W0 W3 := Below.trans h0W2 (h3.mono (Below.size h0W2))
        have hBW3 := hb0.trans (h0W3.mono hb0.size)
        obtain ⟨⟨y0, y1⟩, x0, x1, x2, x3, x4, x5, x6, hbz0, hbz1⟩ := hK.out W3 (h0W3)
        go_wp2_with fail
        clear y0 y1 x0 x1 x2 x3 x4 x5 x6 hbz0 hbz1
        refine (rErrorAt _ _ _ (hP'.out _ hBW3) (hN.out _ hBW3) hE.out).mono ?_
        rintro e W4 ⟨rfl, h4⟩
        have h0W4 : Below W0.heap.size W0 W4 := Below.trans h0W3 (h4.mono (Below.size h0W3))
        have hBW4 := hb0.trans (h0W4.mono hb0.size)
        obtain ⟨⟨y0, y1⟩, x0, x1, x2, x3, x4, x5, x6, hbz0, hbz1⟩ := hK.out W4 (h0W4)
        go_wp2_with fail
        clear y0 y1 x0 x1 x2 x3 x4 x5 x6 hbz0 hbz1
        refine (rErrorAt _ _ _ (hP'.out _ hBW4) (hN.out _ hBW4) hE0.out).mono ?_
        rintro e W5 ⟨rfl, h5⟩
        have h0W5 : Below W0.heap.size W0 W5 := Below.trans h0W4 (h5.mono (Below.size h0W4))
        have hBW5 := hb0.trans (h0W5.mono hb0.size)
        obtain ⟨⟨y0, y1⟩, x0, x1, x2, x3, x4, x5, x6, hbz0, hbz1⟩ := hK.out W5 (h0W5)
        go_wp2_with fail
        clear y0 y1 x0 x1 x2 x3 x4 x5 x6 hbz0 hbz1
        refine (rFreeOf _ _ _ p s b (hP'.out _ hBW5) (hV.out _ hBW5) hsn.out hbb.out).mono ?_
        rintro e W6 ⟨rfl, h6⟩
        have h0W6 : Below W0.heap.size W0 W6 := Below.trans h0W5 (h6.mono (Below.size h0W5))
        have hBW6 := hb0.trans (h0W6.mono hb0.size)
        obtain ⟨⟨y0, y1⟩, x0, x1, x2, x3, x4, x5, x6, hbz0, hbz1⟩ := hK.out W6 (h0W6)
        go_wp2_with fail
        clear y0 y1 x0 x1 x2 x3 x4 x5 x6 hbz0 hbz1
        refine (stateBegun _).mono ?_
        rintro e W9 ⟨rfl, h9⟩
        go_wp2_with fail
        go_ret
        exact ⟨rfl, (hBW6).trans (h9.mono (Below.size hBW6))⟩
      · have hgg := Lib.hid (isGood_iff.1 hg)
        have hA := Lib.hid (availE_yes (b := b) (g := g) hc (by rw [hb, hg]; rfl))
        have hE := Lib.hid (error_yes (b := b) (g := g) hc (by rw [hb, hg]; rfl))
        have hc' := Lib.hid hc
        clear hb hc hg
        obtain ⟨Ab, cb, As, cs, rfl, hP', hBn, hSz, hlb, hls⟩ := openPl hp
        obtain ⟨A0, c0, A1, c1, A2, c2, A3, c3, A4, c4, A5, c5, A6, c6, rfl, hV, hN, hO, hH, hM, hI, hU, hX, hl0, hl1, hl2, hl3, hl4, hl5, hl6⟩ := openOne hv
        go_enter Try.func5, Try.ntmps5
        go_wp2_with fail
        obtain ⟨W0, hW0, hb0, hsz0, hsz1, hsE, hK⟩ := boxesTwo w p s Ab cb As cs A0 c0 A1 c1 A2 c2 A3 c3 A4 c4 A5 c5 A6 c6
        rw [hW0]
        clear hW0
        obtain ⟨⟨y0, y1⟩, x0, x1, x2, x3, x4, x5, x6, hbz0, hbz1⟩ := hK.out W0 (Below.refl W0.heap.size W0)
        go_wp2_with fail
        clear y0 y1 x0 x1 x2 x3 x4 x5 x6 hbz0 hbz1
        refine (sAvailAt _ _ _ (hP'.out _ hb0) (hV.out _ hb0) hA.out).mono ?_
        rintro e W1 ⟨rfl, h1⟩
        have h0W1 : Below W0.heap.size W0 W1 := Below.trans (Below.refl W0.heap.size W0) (h1.mono (Below.size (Below.refl W0.heap.size W0)))
        have hBW1 := hb0.trans (h0W1.mono hb0.size)
        obtain ⟨⟨y0, y1⟩, x0, x1, x2, x3, x4, x5, x6, hbz0, hbz1⟩ := hK.out W1 (h0W1)
        go_wp2_with fail
        clear y0 y1 x0 x1 x2 x3 x4 x5 x6 hbz0 hbz1
        refine (sFreeAt _ _ _ (hP'.out _ hBW1) (hV.out _ hBW1) hF.out).mono ?_
        rintro e W2 ⟨rfl, h2⟩
        have h0W2 : Below W0.heap.size W0 W2 := Below.trans h0W1 (h2.mono (Below.size h0W1))
        have hBW2 := hb0.trans (h0W2.mono hb0.size)
        obtain ⟨⟨y0, y1⟩, x0, x1, x2, x3, x4, x5, x6, hbz0, hbz1⟩ := hK.out W2 (h0W2)
        go_wp2_with fail
        clear y0 y1 x0 x1 x2 x3 x4 x5 x6 hbz0 hbz1
        refine (rCheckAt _ _ _ (hP'.out _ hBW2) (hV.out _ hBW2) hc'.out).mono ?_
        rintro e W3 ⟨rfl, h3⟩
        have h0W3 : Below W0.heap.size W0 W3 := Below.trans h0W2 (h3.mono (Below.size h0W2))
        have hBW3 := hb0.trans (h0W3.mono hb0.size)
        obtain ⟨⟨y0, y1⟩, x0, x1, x2, x3, x4, x5, x6, hbz0, hbz1⟩ := hK.out W3 (h0W3)
        go_wp2_with fail
        clear y0 y1 x0 x1 x2 x3 x4 x5 x6 hbz0 hbz1
        refine (rErrorAt _ _ _ (hP'.out _ hBW3) (hN.out _ hBW3) hE.out).mono ?_
        rintro e W4 ⟨rfl, h4⟩
        have h0W4 : Below W0.heap.size W0 W4 := Below.trans h0W3 (h4.mono (Below.size h0W3))
        have hBW4 := hb0.trans (h0W4.mono hb0.size)
        obtain ⟨⟨y0, y1⟩, x0, x1, x2, x3, x4, x5, x6, hbz0, hbz1⟩ := hK.out W4 (h0W4)
        go_wp2_with fail
        clear y0 y1 x0 x1 x2 x3 x4 x5 x6 hbz0 hbz1
        refine (rErrorAt _ _ _ (hP'.out _ hBW4) (hN.out _ hBW4) hE0.out).mono ?_
        rintro e W5 ⟨rfl, h5⟩
        have h0W5 : Below W0.heap.size W0 W5 := Below.trans h0W4 (h5.mono (Below.size h0W4))
        have hBW5 := hb0.trans (h0W5.mono hb0.size)
        obtain ⟨⟨y0, y1⟩, x0, x1, x2, x3, x4, x5, x6, hbz0, hbz1⟩ := hK.out W5 (h0W5)
        go_wp2_with fail
        clear y0 y1 x0 x1 x2 x3 x4 x5 x6 hbz0 hbz1
        refine (rAvailOf _ _ p s b g (hV.out _ hBW5) hsn.out hbb.out hgg.out).mono ?_
        rintro e W6 ⟨rfl, h6⟩
        have h0W6 : Below W0.heap.size W0 W6 := Below.trans h0W5 (h6.mono (Below.size h0W5))
        have hBW6 := hb0.trans (h0W6.mono hb0.size)
        obtain ⟨⟨y0, y1⟩, x0, x1, x2, x3, x4, x5, x6, hbz0, hbz1⟩ := hK.out W6 (h0W6)
        go_wp2_with fail
        clear y0 y1 x0 x1 x2 x3 x4 x5 x6 hbz0 hbz1
        refine (rFreeOf _ _ _ p s b (hP'.out _ hBW6) (hV.out _ hBW6) hsn.out hbb.out).mono ?_
        rintro e W7 ⟨rfl, h7⟩
        have h0W7 : Below W0.heap.size W0 W7 := Below.trans h0W6 (h7.mono (Below.size h0W6))
        have hBW7 := hb0.trans (h0W7.mono hb0.size)
        obtain ⟨⟨y0, y1⟩, x0, x1, x2, x3, x4, x5, x6, hbz0, hbz1⟩ := hK.out W7 (h0W7)
        go_wp2_with fail
        clear y0 y1 x0 x1 x2 x3 x4 x5 x6 hbz0 hbz1
        refine (stateBegun _).mono ?_
        rintro e W9 ⟨rfl, h9⟩
        go_wp2_with fail
        go_ret
        exact ⟨rfl, (hBW7).trans (h9.mono (Below.size hBW7))⟩
  · have hA := Lib.hid (availE_bad (b := b) (g := g) hc)
    have hF := Lib.hid (freeE_bad (b := b) hc)
    obtain ⟨c, hcc⟩ : ∃ c, checkState p s = c := ⟨_, rfl⟩
    rw [hcc] at hA hF hc
    have hzf : (c == 0) = false := by simpa using hc
    have hc' := Lib.hid hcc
    clear hc hcc
    obtain ⟨Ab, cb, As, cs, rfl, hP', hBn, hSz, hlb, hls⟩ := openPl hp
    obtain ⟨A0, c0, A1, c1, A2, c2, A3, c3, A4, c4, A5, c5, A6, c6, rfl, hV, hN, hO, hH, hM, hI, hU, hX, hl0, hl1, hl2, hl3, hl4, hl5, hl6⟩ := openOne hv
    go_enter Try.func5, Try.ntmps5
    go_wp2_with fail
    obtain ⟨W0, hW0, hb0, hsz0, hsz1, hsE, hK⟩ := boxesTwo w p s Ab cb As cs A0 c0 A1 c1 A2 c2 A3 c3 A4 c4 A5 c5 A6 c6
    rw [hW0]
    clear hW0
    obtain ⟨⟨y0, y1⟩, x0, x1, x2, x3, x4, x5, x6, hbz0, hbz1⟩ := hK.out W0 (Below.refl W0.heap.size W0)
    go_wp2_with fail
    clear y0 y1 x0 x1 x2 x3 x4 x5 x6 hbz0 hbz1
    refine (sAvailAt _ _ _ (hP'.out _ hb0) (hV.out _ hb0) hA.out).mono ?_
    rintro e W1 ⟨rfl, h1⟩
    have h0W1 : Below W0.heap.size W0 W1 := Below.trans (Below.refl W0.heap.size W0) (h1.mono (Below.size (Below.refl W0.heap.size W0)))
    have hBW1 := hb0.trans (h0W1.mono hb0.size)
    obtain ⟨⟨y0, y1⟩, x0, x1, x2, x3, x4, x5, x6, hbz0, hbz1⟩ := hK.out W1 (h0W1)
    go_wp2_with fail
    clear y0 y1 x0 x1 x2 x3 x4 x5 x6 hbz0 hbz1
    refine (sFreeAt _ _ _ (hP'.out _ hBW1) (hV.out _ hBW1) hF.out).mono ?_
    rintro e W2 ⟨rfl, h2⟩
    have h0W2 : Below W0.heap.size W0 W2 := Below.trans h0W1 (h2.mono (Below.size h0W1))
    have hBW2 := hb0.trans (h0W2.mono hb0.size)
    obtain ⟨⟨y0, y1⟩, x0, x1, x2, x3, x4, x5, x6, hbz0, hbz1⟩ := hK.out W2 (h0W2)
    go_wp2_with fail
    clear y0 y1 x0 x1 x2 x3 x4 x5 x6 hbz0 hbz1
    refine (rCheckAt _ _ _ (hP'.out _ hBW2) (hV.out _ hBW2) hc'.out).mono ?_
    rintro e W3 ⟨rfl, h3⟩
    have h0W3 : Below W0.heap.size W0 W3 := Below.trans h0W2 (h3.mono (Below.size h0W2))
    have hBW3 := hb0.trans (h0W3.mono hb0.size)
    obtain ⟨⟨y0, y1⟩, x0, x1, x2, x3, x4, x5, x6, hbz0, hbz1⟩ := hK.out W3 (h0W3)
    go_wp2_with fail
    clear y0 y1 x0 x1 x2 x3 x4 x5 x6 hbz0 hbz1
    refine (stateBegun _).mono ?_
    rintro e W9 ⟨rfl, h9⟩
    go_wp2_with fail
    go_ret
    exact ⟨rfl, (hBW3).trans (h9.mono (Below.size hBW3))⟩
end Wh
namespace Wh
open Go Go.RowKit Go.Shelf Go.Proofs
attribute [local go_sem] run_indexAt_letter evL_tmp evL_const evL_func
set_option maxHeartbeats 4000000 in
set_option maxRecDepth 100000 in
theorem stateTrueWalk (w : World) (v vs : Value) (p : Plan) (s : State) (b g : Int) (hp : PlanV w w.heap.size v p) (hv : StateV w w.heap.size vs s) :
    Calls Try.prog 6 #[v, vs, .int .i64 b, .int .i64 g] w fun e w' => e = .returned (.bool true) ∧ Below w.heap.size w w' := by
  by_cases hc : checkState p s = 0
  · by_cases hA0 : (availE p s b g).2 = 0
    · obtain ⟨⟨b0, b1⟩, ⟨g0, g1, g2, g3, g4⟩, ⟨a0, a1⟩, he, hsum⟩ := state_true hA0
      have hA := Lib.hid (show availE p s b g = ((availE p s b g).1, 0) by rw [← hA0])
      have hE := Lib.hid he
      have hS := Lib.hid hsum
      have hc' := Lib.hid hc
      have hsn := Lib.hid (checkState_zero.1 hc).1
      generalize (availE p s b g).1 = av at hA a0 a1
      have hbl : b.toNat < s.on.length := by omega
      have hgl : g.toNat < (rowAt s.on b.toNat).length := by omega
      have hbp : b.toNat < p.bins.length := by rw [← hsn.out.onLen]; exact hbl
      have hgs : g.toNat < p.sizes.length := by rw [← hsn.out.rowLen hbp]; exact hgl
      have r1 := hsn.out.inn.2 hgs
      have r2 := hsn.out.out.2 hgs
      have r3 := hsn.out.fixed.2 hgs
      have hw1 : IntKind.i64.wrap (intAt s.inn g.toNat - intAt s.out g.toNat) = intAt s.inn g.toNat - intAt s.out g.toNat := IntWalk.i64_in _ (by omega)
      have hw2 : IntKind.i64.wrap (intAt s.inn g.toNat - intAt s.out g.toNat + intAt s.fixed g.toNat) = intAt s.inn g.toNat - intAt s.out g.toNat + intAt s.fixed g.toNat := IntWalk.i64_in _ (by omega)
      have hw1' := Lib.hid hw1
      have hw2' := Lib.hid hw2
      clear hc hA0 he hsum hw1 hw2
      obtain ⟨Ab, cb, As, cs, rfl, hP', hBn, hSz, hlb, hls⟩ := openPl hp
      obtain ⟨A0, c0, A1, c1, A2, c2, A3, c3, A4, c4, A5, c5, A6, c6, rfl, hV, hN, hO, hH, hM, hI, hU, hX, hl0, hl1, hl2, hl3, hl4, hl5, hl6⟩ := openOne hv
      go_enter Try.func6, Try.ntmps6
      go_wp2_with fail
      obtain ⟨W0, hW0, hb0, hsz0, hsz1, hsE, hK⟩ := boxesTwo w p s Ab cb As cs A0 c0 A1 c1 A2 c2 A3 c3 A4 c4 A5 c5 A6 c6
      rw [hW0]
      clear hW0
      obtain ⟨⟨y0, y1⟩, x0, x1, x2, x3, x4, x5, x6, hbz0, hbz1⟩ := hK.out W0 (Below.refl W0.heap.size W0)
      go_wp2_with fail
      clear y0 y1 x0 x1 x2 x3 x4 x5 x6 hbz0 hbz1
      refine (sCheckAt _ _ _ (hP'.out _ hb0) (hV.out _ hb0) hc'.out).mono ?_
      rintro e W1 ⟨rfl, h1⟩
      have h0W1 : Below W0.heap.size W0 W1 := Below.trans (Below.refl W0.heap.size W0) (h1.mono (Below.size (Below.refl W0.heap.size W0)))
      have hBW1 := hb0.trans (h0W1.mono hb0.size)
      obtain ⟨⟨y0, y1⟩, x0, x1, x2, x3, x4, x5, x6, hbz0, hbz1⟩ := hK.out W1 (h0W1)
      go_wp2_with fail
      clear y0 y1 x0 x1 x2 x3 x4 x5 x6 hbz0 hbz1
      refine (sAvailAt _ _ _ (hP'.out _ hBW1) (hV.out _ hBW1) hA.out).mono ?_
      rintro e W2 ⟨rfl, h2⟩
      have h0W2 : Below W0.heap.size W0 W2 := Below.trans h0W1 (h2.mono (Below.size h0W1))
      have hBW2 := hb0.trans (h0W2.mono hb0.size)
      obtain ⟨⟨y0, y1⟩, x0, x1, x2, x3, x4, x5, x6, hbz0, hbz1⟩ := hK.out W2 (h0W2)
      go_wp2_with fail
      clear y0 y1 x0 x1 x2 x3 x4 x5 x6 hbz0 hbz1
      refine (shelfSum _ _ _ p s.on g (hP'.out _ hBW2) (hN.out _ hBW2)).mono ?_
      rw [hE.out, hS.out]
      rintro e W3 ⟨rfl, h3⟩
      have h03 := h0W2.trans (h3.mono h0W2.size)
      have hB3 := hb0.trans (h03.mono hb0.size)
      obtain ⟨⟨y0, y1⟩, x0, x1, x2, x3, x4, x5, x6, hbz0, hbz1⟩ := hK.out W3 (h03)
      obtain ⟨Ar, cr, or0, lr0, rr0, hrow⟩ := (hN.out W3 hB3).row hbl
      obtain ⟨or1, lr1, rr1⟩ := hrow.at_.int hgl
      obtain ⟨oi, li, ri⟩ := (hI.out W3 hB3).at_.int (i := g.toNat) (by omega)
      obtain ⟨ou, lu, ru⟩ := (hU.out W3 hB3).at_.int (i := g.toNat) (by omega)
      obtain ⟨ox, lx, rx⟩ := (hX.out W3 hB3).at_.int (i := g.toNat) (by omega)
      have hcl : intAt (rowAt s.on b.toNat) g.toNat = cell s.on b.toNat g.toNat := rfl
      rw [hcl] at rr1
      clear hcl
      have rr0' := Lib.hid rr0
      have rr1' := Lib.hid rr1
      have ri' := Lib.hid ri
      have ru' := Lib.hid ru
      have rx' := Lib.hid rx
      go_wp2_with fail
      clear y0 y1 x0 x1 x2 x3 x4 x5 x6 hbz0 hbz1
      clear rr0 rr1 ri ru rx
      refine wp_region_opsG 43 [fun gq w' => (fun v w' => v = .bool true) (gq 81) w', fun gq _ => gq 82 = .bool true, fun gq _ => gq 83 = .int .i64 0, fun gq _ => gq 84 = .bool true, fun gq _ => gq 85 = .bool true, fun gq _ => gq 86 = .bool true, fun gq _ => gq 87 = .int .i64 av, fun gq _ => gq 88 = .bool true, fun gq _ => gq 89 = .bool true, fun gq _ => gq 90 = .bool true, fun gq _ => gq 91 = .int .i64 av, fun gq _ => gq 92 = .pointer (some ⟨w.heap.size + 1, 0, none⟩), fun gq _ => gq 93 = .slice A0 s.on.length c0, fun gq _ => gq 94 = .int .i64 b, fun gq _ => gq 95 = .pointer (some ⟨ablk A0, aoff A0 + b.toNat, none⟩), fun gq _ => gq 96 = .slice Ar (rowAt s.on b.toNat).length cr, fun gq _ => gq 97 = .int .i64 g, fun gq _ => gq 98 = .pointer (some ⟨ablk Ar, aoff Ar + g.toNat, none⟩), fun gq _ => gq 99 = .int .i64 (cell s.on b.toNat g.toNat), fun gq _ => gq 100 = .bool true, fun gq _ => gq 101 = .bool true, fun gq _ => gq 102 = .bool true, fun gq _ => gq 103 = .int .i64 (intAt s.inn g.toNat - intAt s.out g.toNat + intAt s.fixed g.toNat), fun gq _ => gq 104 = .pointer (some ⟨w.heap.size + 1, 4, none⟩), fun gq _ => gq 105 = .slice A4 s.inn.length c4, fun gq _ => gq 106 = .int .i64 g, fun gq _ => gq 107 = .pointer (some ⟨ablk A4, aoff A4 + g.toNat, none⟩), fun gq _ => gq 108 = .int .i64 (intAt s.inn g.toNat), fun gq _ => gq 109 = .pointer (some ⟨w.heap.size + 1, 5, none⟩), fun gq _ => gq 110 = .slice A5 s.out.length c5, fun gq _ => gq 111 = .int .i64 g, fun gq _ => gq 112 = .pointer (some ⟨ablk A5, aoff A5 + g.toNat, none⟩), fun gq _ => gq 113 = .int .i64 (intAt s.out g.toNat), fun gq _ => gq 114 = .int .i64 (intAt s.inn g.toNat - intAt s.out g.toNat), fun gq _ => gq 115 = .pointer (some ⟨w.heap.size + 1, 6, none⟩), fun gq _ => gq 116 = .slice A6 s.fixed.length c6, fun gq _ => gq 117 = .int .i64 g, fun gq _ => gq 118 = .pointer (some ⟨ablk A6, aoff A6 + g.toNat, none⟩), fun gq _ => gq 119 = .int .i64 (intAt s.fixed g.toNat), fun gq _ => gq 120 = .int .i64 (intAt s.inn g.toNat - intAt s.out g.toNat + intAt s.fixed g.toNat), fun gq _ => gq 121 = .bool true, fun gq _ => gq 122 = .bool true, fun gq _ => gq 8 = .bool true] (by kernel_rfl) (by kernel_rfl) rfl (by kernel_rfl) ?_ (fun f w2 hb2 hR => ?_)
      simp only [List.take_succ_cons, List.take_zero]
      refine OpsG.cons (OpG.one (d := 81) (p := (fun v w' => v = .bool true)) rfl rfl (fun v w1 w2 h hb => h) (fun gq w' ho hd => trivial) (fun gq w' hb ho hd => ?_)) ?_
      · unfold OpRel
        go_simp
        refine (stateBegun w').mono ?_
        rintro e w2 ⟨rfl, hb2⟩
        exact ⟨_, rfl, rfl, hb2⟩
      refine OpsG.cons (OpG.val rfl rfl (fun gq w' ho hd => trivial) (fun gq w' hb ho hd => ?_)) ?_
      · have e81 : (gq 81) = .bool true := hd ⟨0, .data⟩ (by simp) rfl (by decide)
        go_simp
      refine OpsG.cons (OpG.val rfl rfl (fun gq w' ho hd => ⟨_, rfl, hd ⟨1, .guard⟩ (by simp) rfl (by decide)⟩) (fun gq w' hb ho hd => ?_)) ?_
      · have e12 := ho 12 rfl
        go_simp
      refine OpsG.cons (OpG.val rfl rfl (fun gq w' ho hd => ⟨_, rfl, hd ⟨1, .guard⟩ (by simp) rfl (by decide)⟩) (fun gq w' hb ho hd => ?_)) ?_
      · have e83 : gq 83 = .int .i64 0 := hd ⟨2, .data⟩ (by simp) rfl (by decide)
        go_simp
      refine OpsG.cons (OpG.val rfl rfl (fun gq w' ho hd => trivial) (fun gq w' hb ho hd => ?_)) ?_
      · have e82 : gq 82 = .bool true := hd ⟨1, .data⟩ (by simp) rfl (by decide)
        have e84 : gq 84 = .bool true := hd ⟨3, .data⟩ (by simp) rfl (by decide)
        go_simp
      refine OpsG.cons (OpG.val rfl rfl (fun gq w' ho hd => trivial) (fun gq w' hb ho hd => ?_)) ?_
      · have e85 : gq 85 = .bool true := hd ⟨4, .data⟩ (by simp) rfl (by decide)
        go_simp
      refine OpsG.cons (OpG.val rfl rfl (fun gq w' ho hd => ⟨_, rfl, hd ⟨5, .guard⟩ (by simp) rfl (by decide)⟩) (fun gq w' hb ho hd => ?_)) ?_
      · have e9 := ho 9 rfl
        go_simp
      refine OpsG.cons (OpG.val rfl rfl (fun gq w' ho hd => ⟨_, rfl, hd ⟨5, .guard⟩ (by simp) rfl (by decide)⟩) (fun gq w' hb ho hd => ?_)) ?_
      · have e87 : gq 87 = .int .i64 av := hd ⟨6, .data⟩ (by simp) rfl (by decide)
        go_simp
      refine OpsG.cons (OpG.val rfl rfl (fun gq w' ho hd => trivial) (fun gq w' hb ho hd => ?_)) ?_
      · have e86 : gq 86 = .bool true := hd ⟨5, .data⟩ (by simp) rfl (by decide)
        have e88 : gq 88 = .bool true := hd ⟨7, .data⟩ (by simp) rfl (by decide)
        go_simp
      refine OpsG.cons (OpG.val rfl rfl (fun gq w' ho hd => trivial) (fun gq w' hb ho hd => ?_)) ?_
      · have e89 : gq 89 = .bool true := hd ⟨8, .data⟩ (by simp) rfl (by decide)
        go_simp
      refine OpsG.cons (OpG.val rfl rfl (fun gq w' ho hd => ⟨_, rfl, hd ⟨9, .guard⟩ (by simp) rfl (by decide)⟩) (fun gq w' hb ho hd => ?_)) ?_
      · have e9 := ho 9 rfl
        go_simp
      refine OpsG.cons (OpG.val rfl rfl (fun gq w' ho hd => ⟨_, rfl, hd ⟨9, .guard⟩ (by simp) rfl (by decide)⟩) (fun gq w' hb ho hd => ?_)) ?_
      · have e5 := ho 5 rfl
        go_simp
      refine OpsG.cons (OpG.val rfl rfl (fun gq w' ho hd => ⟨_, rfl, hd ⟨9, .guard⟩ (by simp) rfl (by decide)⟩) (fun gq w' hb ho hd => ?_)) ?_
      · have e92 : gq 92 = .pointer (some ⟨w.heap.size + 1, 0, none⟩) := hd ⟨11, .data⟩ (by simp) rfl (by decide)
        obtain ⟨⟨y0, y1⟩, x0, x1, x2, x3, x4, x5, x6, hbz0, hbz1⟩ := hK.out w' (h03.trans (hb.mono h03.size))
        go_simp
      refine OpsG.cons (OpG.val rfl rfl (fun gq w' ho hd => ⟨_, rfl, hd ⟨9, .guard⟩ (by simp) rfl (by decide)⟩) (fun gq w' hb ho hd => ?_)) ?_
      · have e2 := ho 2 rfl
        go_simp
      refine OpsG.cons (OpG.val rfl rfl (fun gq w' ho hd => ⟨_, rfl, hd ⟨9, .guard⟩ (by simp) rfl (by decide)⟩) (fun gq w' hb ho hd => ?_)) ?_
      · have e93 : gq 93 = .slice A0 s.on.length c0 := hd ⟨12, .data⟩ (by simp) rfl (by decide)
        have e94 : gq 94 = .int .i64 b := hd ⟨13, .data⟩ (by simp) rfl (by decide)
        go_simp
      refine OpsG.cons (OpG.val rfl rfl (fun gq w' ho hd => ⟨_, rfl, hd ⟨9, .guard⟩ (by simp) rfl (by decide)⟩) (fun gq w' hb ho hd => ?_)) ?_
      · have e95 : gq 95 = .pointer (some ⟨ablk A0, aoff A0 + b.toNat, none⟩) := hd ⟨14, .data⟩ (by simp) rfl (by decide)
        have x := (hb.cell (p := ⟨ablk A0, aoff A0 + b.toNat, none⟩) lr0).trans rr0'.out
        go_simp
      refine OpsG.cons (OpG.val rfl rfl (fun gq w' ho hd => ⟨_, rfl, hd ⟨9, .guard⟩ (by simp) rfl (by decide)⟩) (fun gq w' hb ho hd => ?_)) ?_
      · have e3 := ho 3 rfl
        go_simp
      refine OpsG.cons (OpG.val rfl rfl (fun gq w' ho hd => ⟨_, rfl, hd ⟨9, .guard⟩ (by simp) rfl (by decide)⟩) (fun gq w' hb ho hd => ?_)) ?_
      · have e96 : gq 96 = .slice Ar (rowAt s.on b.toNat).length cr := hd ⟨15, .data⟩ (by simp) rfl (by decide)
        have e97 : gq 97 = .int .i64 g := hd ⟨16, .data⟩ (by simp) rfl (by decide)
        go_simp
      refine OpsG.cons (OpG.val rfl rfl (fun gq w' ho hd => ⟨_, rfl, hd ⟨9, .guard⟩ (by simp) rfl (by decide)⟩) (fun gq w' hb ho hd => ?_)) ?_
      · have e98 : gq 98 = .pointer (some ⟨ablk Ar, aoff Ar + g.toNat, none⟩) := hd ⟨17, .data⟩ (by simp) rfl (by decide)
        have x := (hb.cell (p := ⟨ablk Ar, aoff Ar + g.toNat, none⟩) lr1).trans rr1'.out
        go_simp
      refine OpsG.cons (OpG.val rfl rfl (fun gq w' ho hd => ⟨_, rfl, hd ⟨9, .guard⟩ (by simp) rfl (by decide)⟩) (fun gq w' hb ho hd => ?_)) ?_
      · have e91 : gq 91 = .int .i64 av := hd ⟨10, .data⟩ (by simp) rfl (by decide)
        have e99 : gq 99 = .int .i64 (cell s.on b.toNat g.toNat) := hd ⟨18, .data⟩ (by simp) rfl (by decide)
        go_simp
      refine OpsG.cons (OpG.val rfl rfl (fun gq w' ho hd => trivial) (fun gq w' hb ho hd => ?_)) ?_
      · have e90 : gq 90 = .bool true := hd ⟨9, .data⟩ (by simp) rfl (by decide)
        have e100 : gq 100 = .bool true := hd ⟨19, .data⟩ (by simp) rfl (by decide)
        go_simp
      refine OpsG.cons (OpG.val rfl rfl (fun gq w' ho hd => trivial) (fun gq w' hb ho hd => ?_)) ?_
      · have e101 : gq 101 = .bool true := hd ⟨20, .data⟩ (by simp) rfl (by decide)
        go_simp
      refine OpsG.cons (OpG.val rfl rfl (fun gq w' ho hd => ⟨_, rfl, hd ⟨21, .guard⟩ (by simp) rfl (by decide)⟩) (fun gq w' hb ho hd => ?_)) ?_
      · have e11 := ho 11 rfl
        go_simp
      refine OpsG.cons (OpG.val rfl rfl (fun gq w' ho hd => ⟨_, rfl, hd ⟨21, .guard⟩ (by simp) rfl (by decide)⟩) (fun gq w' hb ho hd => ?_)) ?_
      · have e5 := ho 5 rfl
        go_simp
      refine OpsG.cons (OpG.val rfl rfl (fun gq w' ho hd => ⟨_, rfl, hd ⟨21, .guard⟩ (by simp) rfl (by decide)⟩) (fun gq w' hb ho hd => ?_)) ?_
      · have e104 : gq 104 = .pointer (some ⟨w.heap.size + 1, 4, none⟩) := hd ⟨23, .data⟩ (by simp) rfl (by decide)
        obtain ⟨⟨y0, y1⟩, x0, x1, x2, x3, x4, x5, x6, hbz0, hbz1⟩ := hK.out w' (h03.trans (hb.mono h03.size))
        go_simp
      refine OpsG.cons (OpG.val rfl rfl (fun gq w' ho hd => ⟨_, rfl, hd ⟨21, .guard⟩ (by simp) rfl (by decide)⟩) (fun gq w' hb ho hd => ?_)) ?_
      · have e3 := ho 3 rfl
        go_simp
      refine OpsG.cons (OpG.val rfl rfl (fun gq w' ho hd => ⟨_, rfl, hd ⟨21, .guard⟩ (by simp) rfl (by decide)⟩) (fun gq w' hb ho hd => ?_)) ?_
      · have e105 : gq 105 = .slice A4 s.inn.length c4 := hd ⟨24, .data⟩ (by simp) rfl (by decide)
        have e106 : gq 106 = .int .i64 g := hd ⟨25, .data⟩ (by simp) rfl (by decide)
        go_simp
      refine OpsG.cons (OpG.val rfl rfl (fun gq w' ho hd => ⟨_, rfl, hd ⟨21, .guard⟩ (by simp) rfl (by decide)⟩) (fun gq w' hb ho hd => ?_)) ?_
      · have e107 : gq 107 = .pointer (some ⟨ablk A4, aoff A4 + g.toNat, none⟩) := hd ⟨26, .data⟩ (by simp) rfl (by decide)
        have x := (hb.cell (p := ⟨ablk A4, aoff A4 + g.toNat, none⟩) li).trans ri'.out
        go_simp
      refine OpsG.cons (OpG.val rfl rfl (fun gq w' ho hd => ⟨_, rfl, hd ⟨21, .guard⟩ (by simp) rfl (by decide)⟩) (fun gq w' hb ho hd => ?_)) ?_
      · have e5 := ho 5 rfl
        go_simp
      refine OpsG.cons (OpG.val rfl rfl (fun gq w' ho hd => ⟨_, rfl, hd ⟨21, .guard⟩ (by simp) rfl (by decide)⟩) (fun gq w' hb ho hd => ?_)) ?_
      · have e109 : gq 109 = .pointer (some ⟨w.heap.size + 1, 5, none⟩) := hd ⟨28, .data⟩ (by simp) rfl (by decide)
        obtain ⟨⟨y0, y1⟩, x0, x1, x2, x3, x4, x5, x6, hbz0, hbz1⟩ := hK.out w' (h03.trans (hb.mono h03.size))
        go_simp
      refine OpsG.cons (OpG.val rfl rfl (fun gq w' ho hd => ⟨_, rfl, hd ⟨21, .guard⟩ (by simp) rfl (by decide)⟩) (fun gq w' hb ho hd => ?_)) ?_
      · have e3 := ho 3 rfl
        go_simp
      refine OpsG.cons (OpG.val rfl rfl (fun gq w' ho hd => ⟨_, rfl, hd ⟨21, .guard⟩ (by simp) rfl (by decide)⟩) (fun gq w' hb ho hd => ?_)) ?_
      · have e110 : gq 110 = .slice A5 s.out.length c5 := hd ⟨29, .data⟩ (by simp) rfl (by decide)
        have e111 : gq 111 = .int .i64 g := hd ⟨30, .data⟩ (by simp) rfl (by decide)
        go_simp
      refine OpsG.cons (OpG.val rfl rfl (fun gq w' ho hd => ⟨_, rfl, hd ⟨21, .guard⟩ (by simp) rfl (by decide)⟩) (fun gq w' hb ho hd => ?_)) ?_
      · have e112 : gq 112 = .pointer (some ⟨ablk A5, aoff A5 + g.toNat, none⟩) := hd ⟨31, .data⟩ (by simp) rfl (by decide)
        have x := (hb.cell (p := ⟨ablk A5, aoff A5 + g.toNat, none⟩) lu).trans ru'.out
        go_simp
      refine OpsG.cons (OpG.val rfl rfl (fun gq w' ho hd => ⟨_, rfl, hd ⟨21, .guard⟩ (by simp) rfl (by decide)⟩) (fun gq w' hb ho hd => ?_)) ?_
      · have e108 : gq 108 = .int .i64 (intAt s.inn g.toNat) := hd ⟨27, .data⟩ (by simp) rfl (by decide)
        have e113 : gq 113 = .int .i64 (intAt s.out g.toNat) := hd ⟨32, .data⟩ (by simp) rfl (by decide)
        have hw := hw1'.out
        go_simp
      refine OpsG.cons (OpG.val rfl rfl (fun gq w' ho hd => ⟨_, rfl, hd ⟨21, .guard⟩ (by simp) rfl (by decide)⟩) (fun gq w' hb ho hd => ?_)) ?_
      · have e5 := ho 5 rfl
        go_simp
      refine OpsG.cons (OpG.val rfl rfl (fun gq w' ho hd => ⟨_, rfl, hd ⟨21, .guard⟩ (by simp) rfl (by decide)⟩) (fun gq w' hb ho hd => ?_)) ?_
      · have e115 : gq 115 = .pointer (some ⟨w.heap.size + 1, 6, none⟩) := hd ⟨34, .data⟩ (by simp) rfl (by decide)
        obtain ⟨⟨y0, y1⟩, x0, x1, x2, x3, x4, x5, x6, hbz0, hbz1⟩ := hK.out w' (h03.trans (hb.mono h03.size))
        go_simp
      refine OpsG.cons (OpG.val rfl rfl (fun gq w' ho hd => ⟨_, rfl, hd ⟨21, .guard⟩ (by simp) rfl (by decide)⟩) (fun gq w' hb ho hd => ?_)) ?_
      · have e3 := ho 3 rfl
        go_simp
      refine OpsG.cons (OpG.val rfl rfl (fun gq w' ho hd => ⟨_, rfl, hd ⟨21, .guard⟩ (by simp) rfl (by decide)⟩) (fun gq w' hb ho hd => ?_)) ?_
      · have e116 : gq 116 = .slice A6 s.fixed.length c6 := hd ⟨35, .data⟩ (by simp) rfl (by decide)
        have e117 : gq 117 = .int .i64 g := hd ⟨36, .data⟩ (by simp) rfl (by decide)
        go_simp
      refine OpsG.cons (OpG.val rfl rfl (fun gq w' ho hd => ⟨_, rfl, hd ⟨21, .guard⟩ (by simp) rfl (by decide)⟩) (fun gq w' hb ho hd => ?_)) ?_
      · have e118 : gq 118 = .pointer (some ⟨ablk A6, aoff A6 + g.toNat, none⟩) := hd ⟨37, .data⟩ (by simp) rfl (by decide)
        have x := (hb.cell (p := ⟨ablk A6, aoff A6 + g.toNat, none⟩) lx).trans rx'.out
        go_simp
      refine OpsG.cons (OpG.val rfl rfl (fun gq w' ho hd => ⟨_, rfl, hd ⟨21, .guard⟩ (by simp) rfl (by decide)⟩) (fun gq w' hb ho hd => ?_)) ?_
      · have e114 : gq 114 = .int .i64 (intAt s.inn g.toNat - intAt s.out g.toNat) := hd ⟨33, .data⟩ (by simp) rfl (by decide)
        have e119 : gq 119 = .int .i64 (intAt s.fixed g.toNat) := hd ⟨38, .data⟩ (by simp) rfl (by decide)
        have hw := hw2'.out
        go_simp
      refine OpsG.cons (OpG.val rfl rfl (fun gq w' ho hd => ⟨_, rfl, hd ⟨21, .guard⟩ (by simp) rfl (by decide)⟩) (fun gq w' hb ho hd => ?_)) ?_
      · have e103 : gq 103 = .int .i64 (intAt s.inn g.toNat - intAt s.out g.toNat + intAt s.fixed g.toNat) := hd ⟨22, .data⟩ (by simp) rfl (by decide)
        have e120 : gq 120 = .int .i64 (intAt s.inn g.toNat - intAt s.out g.toNat + intAt s.fixed g.toNat) := hd ⟨39, .data⟩ (by simp) rfl (by decide)
        go_simp
      refine OpsG.cons (OpG.val rfl rfl (fun gq w' ho hd => trivial) (fun gq w' hb ho hd => ?_)) ?_
      · have e102 : gq 102 = .bool true := hd ⟨21, .data⟩ (by simp) rfl (by decide)
        have e121 : gq 121 = .bool true := hd ⟨40, .data⟩ (by simp) rfl (by decide)
        go_simp
      refine OpsG.cons (OpG.val rfl rfl (fun gq w' ho hd => trivial) (fun gq w' hb ho hd => ?_)) ?_
      · have e122 : gq 122 = .bool true := hd ⟨41, .data⟩ (by simp) rfl (by decide)
        go_simp
      exact OpsG.nil
      obtain ⟨r81, r82, r83, r84, r85, r86, r87, r88, r89, r90, r91, r92, r93, r94, r95, r96, r97, r98, r99, r100, r101, r102, r103, r104, r105, r106, r107, r108, r109, r110, r111, r112, r113, r114, r115, r116, r117, r118, r119, r120, r121, r122, r8, _⟩ := hR
      replace r81 : (f 81) = .bool true := r81
      simp only [fillA, fillT, List.take_succ_cons, List.take_zero, List.drop_succ_cons, List.drop_zero, List.filterMap_cons, List.filterMap_nil, List.foldl_cons, List.foldl_nil, List.setIfInBounds_toArray, List.set_cons_zero, List.set_cons_succ, r81, r82, r83, r84, r85, r86, r87, r88, r89, r90, r91, r92, r93, r94, r95, r96, r97, r98, r99, r100, r101, r102, r103, r104, r105, r106, r107, r108, r109, r110, r111, r112, r113, r114, r115, r116, r117, r118, r119, r120, r121, r122, r8]
      clear r81 r82 r83 r84 r85 r86 r87 r88 r89 r90 r91 r92 r93 r94 r95 r96 r97 r98 r99 r100 r101 r102 r103 r104 r105 r106 r107 r108 r109 r110 r111 r112 r113 r114 r115 r116 r117 r118 r119 r120 r121 r122 r8
      refine wpList_nil ?_
      go_wp2_with fail
      go_ret
      exact ⟨rfl, hB3.trans (hb2.mono hB3.size)⟩
    · obtain ⟨a, c, hac⟩ : ∃ a c, availE p s b g = (a, c) := ⟨_, _, rfl⟩
      rw [hac] at hA0
      have hne : (c != 0) = true := by simpa using hA0
      have hA := Lib.hid hac
      have hc' := Lib.hid hc
      clear hc hA0 hac
      obtain ⟨Ab, cb, As, cs, rfl, hP', hBn, hSz, hlb, hls⟩ := openPl hp
      obtain ⟨A0, c0, A1, c1, A2, c2, A3, c3, A4, c4, A5, c5, A6, c6, rfl, hV, hN, hO, hH, hM, hI, hU, hX, hl0, hl1, hl2, hl3, hl4, hl5, hl6⟩ := openOne hv
      go_enter Try.func6, Try.ntmps6
      go_wp2_with fail
      obtain ⟨W0, hW0, hb0, hsz0, hsz1, hsE, hK⟩ := boxesTwo w p s Ab cb As cs A0 c0 A1 c1 A2 c2 A3 c3 A4 c4 A5 c5 A6 c6
      rw [hW0]
      clear hW0
      obtain ⟨⟨y0, y1⟩, x0, x1, x2, x3, x4, x5, x6, hbz0, hbz1⟩ := hK.out W0 (Below.refl W0.heap.size W0)
      go_wp2_with fail
      clear y0 y1 x0 x1 x2 x3 x4 x5 x6 hbz0 hbz1
      refine (sCheckAt _ _ _ (hP'.out _ hb0) (hV.out _ hb0) hc'.out).mono ?_
      rintro e W1 ⟨rfl, h1⟩
      have h0W1 : Below W0.heap.size W0 W1 := Below.trans (Below.refl W0.heap.size W0) (h1.mono (Below.size (Below.refl W0.heap.size W0)))
      have hBW1 := hb0.trans (h0W1.mono hb0.size)
      obtain ⟨⟨y0, y1⟩, x0, x1, x2, x3, x4, x5, x6, hbz0, hbz1⟩ := hK.out W1 (h0W1)
      go_wp2_with fail
      clear y0 y1 x0 x1 x2 x3 x4 x5 x6 hbz0 hbz1
      refine (sAvailAt _ _ _ (hP'.out _ hBW1) (hV.out _ hBW1) hA.out).mono ?_
      rintro e W2 ⟨rfl, h2⟩
      have h0W2 : Below W0.heap.size W0 W2 := Below.trans h0W1 (h2.mono (Below.size h0W1))
      have hBW2 := hb0.trans (h0W2.mono hb0.size)
      obtain ⟨⟨y0, y1⟩, x0, x1, x2, x3, x4, x5, x6, hbz0, hbz1⟩ := hK.out W2 (h0W2)
      go_wp2_with fail
      clear y0 y1 x0 x1 x2 x3 x4 x5 x6 hbz0 hbz1
      refine (stateBegun _).mono ?_
      rintro e W9 ⟨rfl, h9⟩
      go_wp2_with fail
      go_ret
      exact ⟨rfl, (hBW2).trans (h9.mono (Below.size hBW2))⟩
  · obtain ⟨c, hcc⟩ : ∃ c, checkState p s = c := ⟨_, rfl⟩
    rw [hcc] at hc
    have hne : (c != 0) = true := by simpa using hc
    have hc' := Lib.hid hcc
    clear hc hcc
    obtain ⟨Ab, cb, As, cs, rfl, hP', hBn, hSz, hlb, hls⟩ := openPl hp
    obtain ⟨A0, c0, A1, c1, A2, c2, A3, c3, A4, c4, A5, c5, A6, c6, rfl, hV, hN, hO, hH, hM, hI, hU, hX, hl0, hl1, hl2, hl3, hl4, hl5, hl6⟩ := openOne hv
    go_enter Try.func6, Try.ntmps6
    go_wp2_with fail
    obtain ⟨W0, hW0, hb0, hsz0, hsz1, hsE, hK⟩ := boxesTwo w p s Ab cb As cs A0 c0 A1 c1 A2 c2 A3 c3 A4 c4 A5 c5 A6 c6
    rw [hW0]
    clear hW0
    obtain ⟨⟨y0, y1⟩, x0, x1, x2, x3, x4, x5, x6, hbz0, hbz1⟩ := hK.out W0 (Below.refl W0.heap.size W0)
    go_wp2_with fail
    clear y0 y1 x0 x1 x2 x3 x4 x5 x6 hbz0 hbz1
    refine (sCheckAt _ _ _ (hP'.out _ hb0) (hV.out _ hb0) hc'.out).mono ?_
    rintro e W1 ⟨rfl, h1⟩
    have h0W1 : Below W0.heap.size W0 W1 := Below.trans (Below.refl W0.heap.size W0) (h1.mono (Below.size (Below.refl W0.heap.size W0)))
    have hBW1 := hb0.trans (h0W1.mono hb0.size)
    obtain ⟨⟨y0, y1⟩, x0, x1, x2, x3, x4, x5, x6, hbz0, hbz1⟩ := hK.out W1 (h0W1)
    go_wp2_with fail
    clear y0 y1 x0 x1 x2 x3 x4 x5 x6 hbz0 hbz1
    refine (stateBegun _).mono ?_
    rintro e W9 ⟨rfl, h9⟩
    go_wp2_with fail
    go_ret
    exact ⟨rfl, (hBW1).trans (h9.mono (Below.size hBW1))⟩
end Wh
namespace Wh
open Go Go.RowKit Go.Shelf Go.Proofs
def chosen (c : Int) (n : Nat) : Nat := ((if c < 0 then -(c + 1) else c).tmod n).toNat
theorem chosen_lt (c : Int) {n : Nat} (hn : 0 < n) : chosen c n < n := by
  unfold chosen
  have h : 0 ≤ (if c < 0 then -(c + 1) else c) := by split <;> omega
  generalize (if c < 0 then -(c + 1) else c) = d at h
  have h1 := Int.tmod_lt_of_pos d (show (0 : Int) < n by omega)
  have h2 := Int.tmod_nonneg (n : Int) h
  omega
theorem lChoose (w : World) (c : Int) (n : Nat) (hn : 0 < n) (hn2 : n ≤ 1000000000) (hc : -9223372036854775808 ≤ c ∧ c ≤ 9223372036854775807) :
    Calls Try.prog 32 #[.int .i64 c, .int .i64 n] w fun e w' => e = .returned (.int .i64 (chosen c n)) ∧ w = w' := by
  have hne : ((n : Int) == 0) = false := by simp; omega
  by_cases h : c < 0
  · have e1 : ((chosen c n : Nat) : Int) = (-(c + 1)).tmod n := by
      unfold chosen
      rw [if_pos h, Int.toNat_of_nonneg (Int.tmod_nonneg _ (by omega))]
    have hw1 : IntKind.i64.wrap (c + 1) = c + 1 := IntWalk.i64_in _ (by omega)
    have hw2 : IntKind.i64.wrap (-(c + 1)) = -(c + 1) := IntWalk.i64_in _ (by omega)
    have e2 := Lib.hid e1
    clear e1
    go_enter Try.func32, Try.ntmps32
    go_wp2_with fail
    go_ret
    exact ⟨ret_int (by rw [e2.out, Int.neg_tmod]), rfl⟩
  · have e1 : ((chosen c n : Nat) : Int) = c.tmod n := by
      unfold chosen
      rw [if_neg h, Int.toNat_of_nonneg (Int.tmod_nonneg _ (by omega))]
    have e2 := Lib.hid e1
    clear e1
    go_enter Try.func32, Try.ntmps32
    go_wp2_with fail
    go_ret
    exact ⟨ret_int (by rw [e2.out, Int.tmod_eq_emod_of_nonneg (by omega)]), rfl⟩
end Wh
namespace Wh
open Go Go.RowKit Go.Shelf Go.Proofs
attribute [local go_sem] run_indexAt_letter evL_tmp evL_const evL_func

theorem begunAvail {p : Plan} (h : checkPlan p = 0) {b g : Nat} (hb : b < p.bins.length) (hg : g < p.sizes.length) : availE p (begin p) b g = (0, 0) := by
  rw [availE_ok (begin_right h) (isBin_iff.2 (by omega)) (isGood_iff.2 (by omega)), begin_avail]
theorem begunFree {p : Plan} (h : checkPlan p = 0) {b : Nat} (hb : b < p.bins.length) : freeE p (begin p) b = ((binAt p.bins b).room, 0) := by
  rw [freeE_ok (begin_right h) (isBin_iff.2 (by omega)), begin_free]
  rfl
set_option maxHeartbeats 4000000 in
set_option maxRecDepth 100000 in
theorem stateBeginWalk (w : World) (v : Value) (p : Plan) (b g : Int) (hp : PlanV w w.heap.size v p) (hb : -9223372036854775808 ≤ b ∧ b ≤ 9223372036854775807) (hg : -9223372036854775808 ≤ g ∧ g ≤ 9223372036854775807) :
    Calls Try.prog 7 #[v, .int .i64 b, .int .i64 g] w fun e w' => e = .returned (.bool true) ∧ Below w.heap.size w w' := by
  have hb' := Lib.hid hb
  have hg' := Lib.hid hg
  clear hb hg
  have hP := hp
  obtain ⟨_, _, rfl, ⟨Ab, cb, rfl, hlb, hb⟩, ⟨As, cs, rfl, hls, hs⟩⟩ := hp
  have hb0 : Below w.heap.size w (w.alloc (.cells #[.slice Ab p.bins.length cb, .slice As p.sizes.length cs] 25)) := (Below.refl _ _).alloc (Nat.le_refl _) _
  have hsz0 : w.heap.size < (w.alloc (.cells #[.slice Ab p.bins.length cb, .slice As p.sizes.length cs] 25)).heap.size := by simp
  have hk0 : Blk (w.alloc (.cells #[.slice Ab p.bins.length cb, .slice As p.sizes.length cs] 25)) w.heap.size 25 [.slice Ab p.bins.length cb, .slice As p.sizes.length cs] := Blk.new _ _ _
  have hP' := Lib.hid (fun W (hW : Below w.heap.size w W) => hP.up hW hW.size)
  have hBn := Lib.hid (fun W (hW : Below w.heap.size w W) => (Sl.up ⟨Ab, cb, rfl, hlb, hb⟩ hW hW.size : Sl cBin W W.heap.size (.slice Ab p.bins.length cb) p.bins))
  clear hb hs hP
  go_enter Try.func7, Try.ntmps7
  go_wp2_with fail
  generalize hW0 : w.alloc (.cells #[.slice Ab p.bins.length cb, .slice As p.sizes.length cs] 25) = W0 at hb0 hsz0 hk0 ⊢
  clear hW0
  have hk0' := Lib.hid hk0
  clear hk0
  refine (sBegin _ _ p (hP'.out _ hb0)).mono ?_
  rintro e W1 ⟨V1, rfl, ho1, hb1⟩
  have hone2 := (ho1).one
  have hnb2 := newBox (W1)
  go_wp2_with (refine wpList_store_state rfl (.tmp 7) (.tmp 18) rfl rfl (World.heap (W1)).size nilSV V1 hnb2 rfl rfl hone2 (fun w2 hbox2 hg2 => ?_); refine Hid.out ?_)
  unfold Hid
  have hbb2 := newBelow hg2
  have hbl2 := hbox2.lt
  clear hone2 hnb2 hg2
  have hb02 := hb1.trans (hbb2.mono hb1.size)
  have hB2 := hb0.trans (hb02.mono hb0.size)
  have hbox2' := Lib.hid hbox2
  clear hbox2
  by_cases hz : checkPlan p = 0
  · rw [if_pos hz] at ho1
    obtain ⟨q1, q2, q3, q4⟩ := right_counts hz
    have hv1 := Lib.hid ((ho1.below hbb2).view (begunSane hz))
    rw [hz]
    have hz' := Lib.hid hz
    clear hz ho1
    have hkP := hk0'.out.below hb02 hsz0
    have x0 := hkP.cell (j := 0) rfl
    have x1 := hkP.cell (j := 1) rfl
    clear hkP
    have n1 : ((p.bins.length : Int) == 0) = false := by rw [beq_eq_false_iff_ne]; omega
    have n2 : ((p.sizes.length : Int) == 0) = false := by rw [beq_eq_false_iff_ne]; omega
    have hc1 := chosen_lt b (n := p.bins.length) (by omega)
    have hc2 := chosen_lt g (n := p.sizes.length) (by omega)
    have hA := Lib.hid (begunAvail hz'.out hc1 hc2)
    have hF := Lib.hid (begunFree hz'.out hc1)
    go_wp2_with fail
    clear n1 n2 x0 x1
    refine wp_region_ops 12 [fun gq _ => gq 35 = .int .i64 b, fun gq _ => gq 36 = .pointer (some ⟨w.heap.size, 0, none⟩), fun gq _ => gq 37 = .slice Ab p.bins.length cb, fun gq _ => gq 38 = .int .i64 p.bins.length, fun gq w' => (fun v w' => v = .int .i64 (chosen b p.bins.length)) (gq 39) w', fun gq _ => gq 40 = .int .i64 g, fun gq _ => gq 41 = .pointer (some ⟨w.heap.size, 1, none⟩), fun gq _ => gq 42 = .slice As p.sizes.length cs, fun gq _ => gq 43 = .int .i64 p.sizes.length, fun gq w' => (fun v w' => v = .int .i64 (chosen g p.sizes.length)) (gq 44) w', fun gq _ => gq 9 = .int .i64 (chosen b p.bins.length), fun gq _ => gq 10 = .int .i64 (chosen g p.sizes.length)] (by kernel_rfl) (by kernel_rfl) rfl (by kernel_rfl) ?_ (fun f w3 hb3 hR => ?_)
    simp only [List.take_succ_cons, List.take_zero]
    refine OpsOK.cons (OpOK.val rfl rfl (fun gq w' hb ho hd => ?_)) ?_
    · have e1 := ho 1 rfl
      go_simp
    refine OpsOK.cons (OpOK.val rfl rfl (fun gq w' hb ho hd => ?_)) ?_
    · have e3 := ho 3 rfl
      go_simp
    refine OpsOK.cons (OpOK.val rfl rfl (fun gq w' hb ho hd => ?_)) ?_
    · have e36 : gq 36 = .pointer (some ⟨w.heap.size, 0, none⟩) := hd ⟨1, .data⟩ (by simp) rfl (by decide)
      have x0 := (hk0'.out.below (hb02.trans (hb.mono hb02.size)) hsz0).cell (j := 0) rfl
      go_simp
    refine OpsOK.cons (OpOK.val rfl rfl (fun gq w' hb ho hd => ?_)) ?_
    · have e37 : gq 37 = .slice Ab p.bins.length cb := hd ⟨2, .data⟩ (by simp) rfl (by decide)
      go_simp
    refine OpsOK.cons (OpOK.one (d := 39) (p := (fun v w' => v = .int .i64 (chosen b p.bins.length))) rfl rfl (fun v w1 w2 h hb => h) (fun gq w' hb ho hd => ?_)) ?_
    · have e35 : gq 35 = .int .i64 b := hd ⟨0, .data⟩ (by simp) rfl (by decide)
      have e38 : gq 38 = .int .i64 p.bins.length := hd ⟨3, .data⟩ (by simp) rfl (by decide)
      unfold OpRel
      go_simp
      refine (lChoose w' b p.bins.length (by omega) (by omega) hb'.out).mono ?_
      rintro e w2 ⟨rfl, rfl⟩
      exact ⟨_, rfl, rfl, Below.refl _ _⟩
    refine OpsOK.cons (OpOK.val rfl rfl (fun gq w' hb ho hd => ?_)) ?_
    · have e2 := ho 2 rfl
      go_simp
    refine OpsOK.cons (OpOK.val rfl rfl (fun gq w' hb ho hd => ?_)) ?_
    · have e3 := ho 3 rfl
      go_simp
    refine OpsOK.cons (OpOK.val rfl rfl (fun gq w' hb ho hd => ?_)) ?_
    · have e41 : gq 41 = .pointer (some ⟨w.heap.size, 1, none⟩) := hd ⟨6, .data⟩ (by simp) rfl (by decide)
      have x0 := (hk0'.out.below (hb02.trans (hb.mono hb02.size)) hsz0).cell (j := 1) rfl
      go_simp
    refine OpsOK.cons (OpOK.val rfl rfl (fun gq w' hb ho hd => ?_)) ?_
    · have e42 : gq 42 = .slice As p.sizes.length cs := hd ⟨7, .data⟩ (by simp) rfl (by decide)
      go_simp
    refine OpsOK.cons (OpOK.one (d := 44) (p := (fun v w' => v = .int .i64 (chosen g p.sizes.length))) rfl rfl (fun v w1 w2 h hb => h) (fun gq w' hb ho hd => ?_)) ?_
    · have e40 : gq 40 = .int .i64 g := hd ⟨5, .data⟩ (by simp) rfl (by decide)
      have e43 : gq 43 = .int .i64 p.sizes.length := hd ⟨8, .data⟩ (by simp) rfl (by decide)
      unfold OpRel
      go_simp
      refine (lChoose w' g p.sizes.length (by omega) (by omega) hg'.out).mono ?_
      rintro e w2 ⟨rfl, rfl⟩
      exact ⟨_, rfl, rfl, Below.refl _ _⟩
    refine OpsOK.cons (OpOK.val rfl rfl (fun gq w' hb ho hd => ?_)) ?_
    · have e39 : (gq 39) = .int .i64 (chosen b p.bins.length) := hd ⟨4, .data⟩ (by simp) rfl (by decide)
      go_simp
    refine OpsOK.cons (OpOK.val rfl rfl (fun gq w' hb ho hd => ?_)) ?_
    · have e44 : (gq 44) = .int .i64 (chosen g p.sizes.length) := hd ⟨9, .data⟩ (by simp) rfl (by decide)
      go_simp
    exact OpsOK.nil
    obtain ⟨r35, r36, r37, r38, r39, r40, r41, r42, r43, r44, r9, r10, _⟩ := hR
    replace r39 : (f 39) = .int .i64 (chosen b p.bins.length) := r39
    replace r44 : (f 44) = .int .i64 (chosen g p.sizes.length) := r44
    simp only [fillA, fillT, List.take_succ_cons, List.take_zero, List.drop_succ_cons, List.drop_zero, List.filterMap_cons, List.filterMap_nil, List.foldl_cons, List.foldl_nil, List.setIfInBounds_toArray, List.set_cons_zero, List.set_cons_succ, r35, r36, r37, r38, r39, r40, r41, r42, r43, r44, r9, r10]
    clear r35 r36 r37 r38 r39 r40 r41 r42 r43 r44 r9 r10
    generalize chosen b p.bins.length = bn at hc1 hA hF ⊢
    generalize chosen g p.sizes.length = gn at hc2 hA hF ⊢
    refine wpList_nil ?_
    have h23 := hb02.trans (hb3.mono hb02.size)
    have hB3 := hb0.trans (h23.mono hb0.size)
    have hv3 := hv1.out.grow hb3
    have hb3' := Lib.hid (hbox2'.out.below hb3 hbl2)
    have hkP := hk0'.out.below h23 hsz0
    have x0 := hkP.cell (j := 0) rfl
    have x1 := hkP.cell (j := 1) rfl
    have hz3 := Nat.lt_of_lt_of_le hbl2 hb3.size
    obtain ⟨p0, p1, p2, p3, p4, p5, p6⟩ := hb3'.out.cells
    clear hkP
    go_wp2_with fail
    clear p0 p1 p2 p3 p4 p5 p6 x0 x1
    refine (sAvailAt _ _ _ (hP'.out _ hB3) hv3 hA.out).mono ?_
    rintro e W4 ⟨rfl, h4⟩
    have h24 := h23.trans (h4.mono h23.size)
    have hB4 := hb0.trans (h24.mono hb0.size)
    have hv4 := hv3.grow h4
    have hkP := hk0'.out.below h24 hsz0
    have x0 := hkP.cell (j := 0) rfl
    have x1 := hkP.cell (j := 1) rfl
    obtain ⟨p0, p1, p2, p3, p4, p5, p6⟩ := (hb3'.out.below h4 hz3).cells
    clear hkP
    go_wp2_with fail
    clear p0 p1 p2 p3 p4 p5 p6 x0 x1
    refine (sFreeAt _ _ _ (hP'.out _ hB4) hv4 hF.out).mono ?_
    rintro e W5 ⟨rfl, h5⟩
    have h35 := h4.trans (h5.mono h4.size)
    have h25 := h24.trans (h5.mono h24.size)
    have hB5 := hb0.trans (h25.mono hb0.size)
    have hv5 := hv4.grow h5
    go_wp2_with fail
    refine (stateBegun _).mono ?_
    rintro e W6 ⟨rfl, h6⟩
    have h36 := h35.trans (h6.mono h35.size)
    have h26 := h25.trans (h6.mono h25.size)
    have hB6 := hb0.trans (h26.mono hb0.size)
    have hv6 := hv5.grow h6
    have hkP := hk0'.out.below h26 hsz0
    have x0 := hkP.cell (j := 0) rfl
    have x1 := hkP.cell (j := 1) rfl
    obtain ⟨p0, p1, p2, p3, p4, p5, p6⟩ := (hb3'.out.below h36 hz3).cells
    clear hkP
    go_wp2_with fail
    clear p0 p1 p2 p3 p4 p5 p6 x0 x1
    refine (sCheckAt _ _ _ (hP'.out _ hB6) hv6 (begin_right hz'.out)).mono ?_
    rintro e W7 ⟨rfl, h7⟩
    have h27 := h26.trans (h7.mono h26.size)
    have hB7 := hb0.trans (h27.mono hb0.size)
    have hkP := hk0'.out.below h27 hsz0
    have x0 := hkP.cell (j := 0) rfl
    obtain ⟨ok0, lk0, k0, k1, k2, k3⟩ := (hBn.out _ hB7).at_.bin hc1
    clear hkP
    go_wp2_with fail
    go_ret
    exact ⟨rfl, hB7⟩
  · have hne : (checkPlan p != 0) = true := by simpa using hz
    clear hz ho1
    go_wp2_with fail
    refine (stateBegun _).mono ?_
    rintro e W9 ⟨rfl, h9⟩
    go_wp2_with fail
    go_ret
    exact ⟨rfl, (hB2).trans (h9.mono (Below.size hB2))⟩
end Wh
