/- HoldsTells, HoldsAdds: the laws' walks -/
import Derived.Test.YteafeopekfhnnaaHoldsI
namespace Wh
open Go Go.RowKit Go.Shelf Go.Proofs
attribute [local go_sem] run_indexAt_letter

set_option maxHeartbeats 2000000 in
theorem holdsTellsWalk (w : World) (v : Value) (l : List Hold) (o ln b : Int) (hv : Sl cHold w w.heap.size v l) :
    Calls Try.prog 8 #[v, .int .i64 o, .int .i64 ln, .int .i64 b] w fun e w' => e = .returned (.bool true) ∧ Below w.heap.size w w' := by
  have hV := hv
  obtain ⟨A, c, rfl, hl, hA⟩ := hv
  have hdl : (drop l o ln b).1.length ≤ 1000 := by
    cases hok : holdsOk l
    · rw [drop_bad hok]; simp
    · have h72 := ok_length hok
      cases hf : found l ⟨o, ln, b, 0⟩
      · rw [drop_none hok hf]; simp
      · rw [drop_yes hok hf]
        have := List.length_eraseIdx_le l (pos l ⟨o, ln, b, 0⟩)
        simp only; omega
  obtain ⟨D, hD⟩ : ∃ D, D = drop l o ln b := ⟨_, rfl⟩
  have c1 := fun W (h : Sl cHold W W.heap.size (.slice A l.length c) l) => hdDrop W _ l o ln b h
  have c2 := fun W (h : Sl cHold W W.heap.size (.slice A l.length c) l) => rDropOf W _ l o ln b h
  unfold DropPost at c1 c2
  rw [← hD] at c1 c2 hdl
  clear hD
  obtain ⟨d1, d2, d3⟩ := D
  simp only at c1 c2 hdl
  have c1' := Lib.hid c1
  have c2' := Lib.hid c2
  clear c1 c2
  cases hok : holdsOk l
  · have hc : checkHolds l = 1 := by unfold checkHolds; rw [hok]; rfl
    have hke : keptE l o ln = (0, 1) := by unfold keptE; rw [hok]; rfl
    have c3 := fun W (h : Sl cHold W W.heap.size (.slice A l.length c) l) => hdKept W _ l o ln h
    have c4 := fun W (h : Sl cHold W W.heap.size (.slice A l.length c) l) => rCheckHolds W _ l h
    have c5 := fun W (h : Sl cHold W W.heap.size (.slice A l.length c) l) => hdCheck W _ l h
    rw [hke] at c3
    rw [hc] at c4 c5
    have c3' := Lib.hid c3
    have c4' := Lib.hid c4
    have c5' := Lib.hid c5
    clear c3 c4 c5 hc hke hok
    go_enter Try.func8, Try.ntmps8
    go_wp2_with fail
    refine (c1'.out _ hV).mono ?_
    rintro e W1 ⟨u1, rfl, hu1, hb1⟩
    go_wp2_with fail
    refine (c3'.out _ (hV.grow hb1)).mono ?_
    rintro e W2 ⟨rfl, hb2⟩
    have hb02 := hb1.trans (hb2.mono hb1.size)
    go_wp2_with fail
    refine (c2'.out _ (hV.grow hb02)).mono ?_
    rintro e W3 ⟨u3, rfl, hu3, hb3⟩
    have hb03 := hb02.trans (hb3.mono hb02.size)
    go_wp2_with fail
    refine (c4'.out _ (hV.grow hb03)).mono ?_
    rintro e W4 ⟨rfl, hb4⟩
    have hb04 := hb03.trans (hb4.mono hb03.size)
    go_wp2_with fail
    refine (holdsBegun _).mono ?_
    rintro e W5 ⟨rfl, hb5⟩
    have hb05 := hb04.trans (hb5.mono hb04.size)
    go_wp2_with fail
    refine (c5'.out _ (hV.grow hb05)).mono ?_
    rintro e W6 ⟨rfl, hb6⟩
    have hb06 := hb05.trans (hb6.mono hb05.size)
    have s1 := ((((hu1.sl (by omega)).grow hb2).grow hb3).grow hb4 |>.grow hb5).grow hb6
    have s3 := (((hu3.sl (by omega)).grow hb4).grow hb5).grow hb6
    go_wp2_with fail
    refine (rSameHolds _ _ _ d1 d1 s1 s3).mono ?_
    rintro e W7 ⟨rfl, hb7⟩
    go_wp2_with fail
    go_ret
    exact ⟨by simp, hb06.trans (hb7.mono hb06.size)⟩
  · have hc : checkHolds l = 0 := check_ok.2 hok
    have hke : keptE l o ln = (kept l o ln, 0) := by unfold keptE; rw [hok]; rfl
    have c3 := fun W (h : Sl cHold W W.heap.size (.slice A l.length c) l) => hdKept W _ l o ln h
    have c4 := fun W (h : Sl cHold W W.heap.size (.slice A l.length c) l) => rCheckHolds W _ l h
    have c5 := fun W (h : Sl cHold W W.heap.size (.slice A l.length c) l) => hdCheck W _ l h
    have c6 := fun W (h : Sl cHold W W.heap.size (.slice A l.length c) l) => rKeptOf W _ l o ln h hok
    rw [hke] at c3
    rw [hc] at c4 c5
    have c3' := Lib.hid c3
    have c4' := Lib.hid c4
    have c5' := Lib.hid c5
    have c6' := Lib.hid c6
    clear c3 c4 c5 c6 hc hke hok
    go_enter Try.func8, Try.ntmps8
    go_wp2_with fail
    refine (c1'.out _ hV).mono ?_
    rintro e W1 ⟨u1, rfl, hu1, hb1⟩
    go_wp2_with fail
    refine (c3'.out _ (hV.grow hb1)).mono ?_
    rintro e W2 ⟨rfl, hb2⟩
    have hb02 := hb1.trans (hb2.mono hb1.size)
    go_wp2_with fail
    refine (c2'.out _ (hV.grow hb02)).mono ?_
    rintro e W3 ⟨u3, rfl, hu3, hb3⟩
    have hb03 := hb02.trans (hb3.mono hb02.size)
    go_wp2_with fail
    refine (c4'.out _ (hV.grow hb03)).mono ?_
    rintro e W4 ⟨rfl, hb4⟩
    have hb04 := hb03.trans (hb4.mono hb03.size)
    go_wp2_with fail
    refine (c6'.out _ (hV.grow hb04)).mono ?_
    rintro e w' ⟨rfl, rfl⟩
    go_wp2_with fail
    refine (holdsBegun _).mono ?_
    rintro e W5 ⟨rfl, hb5⟩
    have hb05 := hb04.trans (hb5.mono hb04.size)
    go_wp2_with fail
    refine (c5'.out _ (hV.grow hb05)).mono ?_
    rintro e W6 ⟨rfl, hb6⟩
    have hb06 := hb05.trans (hb6.mono hb05.size)
    have s1 := ((((hu1.sl (by omega)).grow hb2).grow hb3).grow hb4 |>.grow hb5).grow hb6
    have s3 := (((hu3.sl (by omega)).grow hb4).grow hb5).grow hb6
    go_wp2_with fail
    refine (rSameHolds _ _ _ d1 d1 s1 s3).mono ?_
    rintro e W7 ⟨rfl, hb7⟩
    go_wp2_with fail
    go_ret
    exact ⟨by simp, hb06.trans (hb7.mono hb06.size)⟩

theorem add_length (l : List Hold) (h : Hold) : (add l h).1.length ≤ 1000 := by
  cases hok : holdsOk l
  · rw [add_bad (.inl hok)]; simp
  · cases hf : holdFine h
    · rw [add_bad (.inr hf)]; simp
    · have h72 := ok_length hok
      cases hd : found l h
      · rw [add_new hok hf hd]
        have := (pos_spec l h).1
        simp; omega
      · by_cases hn : 200 < (hold l (pos l h)).n + h.n
        · rw [add_full hok hf hd hn]; simp
        · rw [add_more hok hf hd (by omega)]
          simp; omega

set_option maxHeartbeats 2000000 in
theorem holdsAddsWalk (w : World) (v : Value) (l : List Hold) (h : Hold) (hv : Sl cHold w w.heap.size v l) :
    Calls Try.prog 9 #[v, vHold h] w fun e w' => e = .returned (.bool true) ∧ Below w.heap.size w w' := by
  have hV := hv
  obtain ⟨A, c, rfl, hl, hA⟩ := hv
  have hb0 : Below w.heap.size w (w.alloc (.cells #[.int .i64 (h).order, .int .i64 (h).line, .int .i64 (h).bin, .int .i64 (h).n] 58)) := (Below.refl _ _).alloc (Nat.le_refl _) _
  have hdl := add_length l h
  obtain ⟨D, hD⟩ : ∃ D, D = add l h := ⟨_, rfl⟩
  have c1 := fun W (hs : Sl cHold W W.heap.size (.slice A l.length c) l) => hdAdd W _ l h hs
  have c2 := fun W (hs : Sl cHold W W.heap.size (.slice A l.length c) l) => rAddOf W _ l h hs
  unfold AddPost at c1 c2
  rw [← hD] at c1 c2 hdl
  clear hD
  obtain ⟨d1, d2⟩ := D
  simp only at c1 c2 hdl
  have c1' := Lib.hid c1
  have c2' := Lib.hid c2
  clear c1 c2
  unfold vHold
  go_enter Try.func9, Try.ntmps9
  go_wp2_with fail
  refine (c1'.out _ (hV.grow hb0)).mono ?_
  rintro e W1 ⟨u1, rfl, hu1, hb1⟩
  have hb01 := hb0.trans (hb1.mono hb0.size)
  obtain ⟨hc1, hf1⟩ := bcell hb1
  go_wp2_with fail
  refine (c2'.out _ (hV.grow hb01)).mono ?_
  rintro e W2 ⟨u2, rfl, hu2, hb2⟩
  have hb02 := hb01.trans (hb2.mono hb01.size)
  clear hc1 hf1
  go_wp2_with fail
  refine (holdsBegun _).mono ?_
  rintro e W3 ⟨rfl, hb3⟩
  have hb03 := hb02.trans (hb3.mono hb02.size)
  have s1 := ((hu1.sl (by omega)).grow hb2).grow hb3
  have s2 := (hu2.sl (by omega)).grow hb3
  go_wp2_with fail
  refine (rSameHolds _ _ _ d1 d1 s1 s2).mono ?_
  rintro e W7 ⟨rfl, hb7⟩
  go_wp2_with fail
  go_ret
  exact ⟨by simp, hb03.trans (hb7.mono hb03.size)⟩
end Wh
