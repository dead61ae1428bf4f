/- HoldsOrder: the law's walk -/
import Derived.Test.YteafeopekfhnnaaHoldsK
namespace Wh
open Go Go.RowKit Go.Shelf Go.Proofs
attribute [local go_sem] run_indexAt_letter

set_option maxHeartbeats 4000000 in
theorem holdsOrderWalk (w : World) (v va vb : Value) (l : List Hold) (a b : Hold) (hv : Sl cHold w w.heap.size v l) (ha : HoldV va a) (hb : HoldV vb b) :
    Calls Try.prog 11 #[v, va, vb] w fun e w' => e = .returned (.bool true) ∧ Below w.heap.size w w' := by
  obtain rfl := ha
  obtain rfl := hb
  have hV := hv
  obtain ⟨A, c, rfl, hl, hA⟩ := hv
  have hb0 : Below w.heap.size w ((w.alloc (.cells #[.int .i64 (a).order, .int .i64 (a).line, .int .i64 (a).bin, .int .i64 (a).n] 58)).alloc (.cells #[.int .i64 (b).order, .int .i64 (b).line, .int .i64 (b).bin, .int .i64 (b).n] 58)) := ((Below.refl _ _).alloc (Nat.le_refl _) _).alloc (by simp) _
  have da := add_length l a
  have db := add_length l b
  have hor := @holds_order l a b
  have c1 := fun W (hs : Sl cHold W W.heap.size (.slice A l.length c) l) => hdAdd W _ l a hs
  have c2 := fun W (hs : Sl cHold W W.heap.size (.slice A l.length c) l) => hdAdd W _ l b hs
  unfold AddPost at c1 c2
  have hoka := @add_ok l a
  have hokl := @add_right l a
  generalize hDa : add l a = Da at da hor c1 hoka hokl
  generalize hDb : add l b = Db at db hor c2
  obtain ⟨x, e⟩ := Da
  obtain ⟨y, f⟩ := Db
  simp only at c1 c2 da db hor hoka hokl
  have c1' := Lib.hid c1
  have c2' := Lib.hid c2
  have hor' := Lib.hid hor
  have hoka' := Lib.hid hoka
  have hokl' := Lib.hid hokl
  clear c1 c2 hDa hDb hor hoka hokl
  unfold vHold
  go_enter Try.func11, Try.ntmps11
  go_wp2_with fail
  refine (c1'.out _ (hV.grow hb0)).mono ?_
  rintro e W1 ⟨u1, rfl, hu1, hb1⟩
  have hA1 := hb1
  have hb01 := hb0.trans (hA1.mono hb0.size)
  have s1 := hu1.sl (by omega)
  obtain ⟨hc1, hf1⟩ := bcell hA1
  go_wp2_with fail
  refine (c2'.out _ (hV.grow hb01)).mono ?_
  rintro e W2 ⟨u2, rfl, hu2, hb2⟩
  have hA2 := hA1.trans (hb2.mono hA1.size)
  have hb02 := hb0.trans (hA2.mono hb0.size)
  have s2 := s1.grow hb2
  have t2 := hu2.sl (by omega)
  clear hc1 hf1
  obtain ⟨hc1, hf1⟩ := bcell hA2
  by_cases he : e = 0
  · by_cases hf : f = 0
    · subst he hf
      obtain ⟨o1, o2, o3⟩ := hor'.out rfl rfl
      have hx := hoka'.out rfl
      have hl1 := (hokl'.out rfl).1
      clear hor' hoka' hokl'
      have dz := add_length x b
      have dw := add_length y a
      have c3 := fun W u (hs : Sl cHold W W.heap.size u x) => hdAdd W u x b hs
      have c4 := fun W u (hs : Sl cHold W W.heap.size u y) => hdAdd W u y a hs
      unfold AddPost at c3 c4
      rw [← o1, ← o2] at c4
      rw [← o2] at dw
      generalize add x b = Z at c3 c4 dz dw
      obtain ⟨z, g⟩ := Z
      simp only at c3 c4 dz dw
      have c5 := fun W (hs : Sl cHold W W.heap.size (.slice A l.length c) l) => hdKept W _ l b.order b.line hs
      have c6 := fun W u (hs : Sl cHold W W.heap.size u x) => hdKept W u x b.order b.line hs
      have hke1 : keptE l b.order b.line = (kept l b.order b.line, 0) := by unfold keptE; rw [hl1]; rfl
      have hke2 : keptE x b.order b.line = (kept x b.order b.line, 0) := by unfold keptE; rw [hx]; rfl
      rw [hke1] at c5
      rw [hke2] at c6
      generalize kept l b.order b.line = k1 at c5 o3
      generalize kept x b.order b.line = k2 at c6 o3
      have c3' := Lib.hid c3
      have c4' := Lib.hid c4
      have c5' := Lib.hid c5
      have c6' := Lib.hid c6
      have o3' := Lib.hid o3
      clear c3 c4 c5 c6 hke1 hke2 o1 o2 o3 hx hl1 c1' c2'
      go_wp2_with fail
      refine (c3'.out _ _ s2).mono ?_
      rintro e W3 ⟨u3, rfl, hu3, hb3⟩
      have hA3 := hA2.trans (hb3.mono hA2.size)
      have hb03 := hb0.trans (hA3.mono hb0.size)
      have s3 := s2.grow hb3
      have t3 := t2.grow hb3
      have z3 := hu3.sl (by omega)
      clear hc1 hf1
      obtain ⟨hc1, hf1⟩ := bcell hA3
      go_wp2_with fail
      refine (c4'.out _ _ t3).mono ?_
      rintro e W4 ⟨u4, rfl, hu4, hb4⟩
      have hA4 := hA3.trans (hb4.mono hA3.size)
      have hb04 := hb0.trans (hA4.mono hb0.size)
      have s4 := s3.grow hb4
      have z4 := z3.grow hb4
      have y4 := hu4.sl (by omega)
      clear hc1 hf1
      obtain ⟨hc1, hf1⟩ := bcell hA4
      go_wp2_with fail
      refine (c5'.out _ (hV.grow hb04)).mono ?_
      rintro e W5 ⟨rfl, hb5⟩
      have hA5 := hA4.trans (hb5.mono hA4.size)
      have hb05 := hb0.trans (hA5.mono hb0.size)
      have s5 := s4.grow hb5
      have z5 := z4.grow hb5
      have y5 := y4.grow hb5
      clear hc1 hf1
      obtain ⟨hc1, hf1⟩ := bcell hA5
      go_wp2_with fail
      refine (c6'.out _ _ s5).mono ?_
      rintro e W6 ⟨rfl, hb6⟩
      have hA6 := hA5.trans (hb6.mono hA5.size)
      have hb06 := hb0.trans (hA6.mono hb0.size)
      have z6 := z5.grow hb6
      have y6 := y5.grow hb6
      clear hc1 hf1
      go_wp2_with fail
      refine (holdsBegun _).mono ?_
      rintro e W7 ⟨rfl, hb7⟩
      have hA7 := hA6.trans (hb7.mono hA6.size)
      have hb07 := hb0.trans (hA7.mono hb0.size)
      have z7 := z6.grow hb7
      have y7 := y6.grow hb7
      go_wp2_with fail
      refine (rSameHolds _ _ _ z z z7 y7).mono ?_
      rintro e W8 ⟨rfl, hb8⟩
      have hA8 := hA7.trans (hb8.mono hA7.size)
      have hb08 := hb0.trans (hA8.mono hb0.size)
      obtain ⟨hc1, hf1⟩ := bcell hA8
      have hdd : decide (z = z) = true := by simp
      by_cases hk1 : (a.order == b.order) = true
      · by_cases hk2 : (a.line == b.line) = true
        · go_wp2_with fail
          go_ret
          exact ⟨rfl, hb08⟩
        · have hk2' : (a.line == b.line) = false := by simpa using hk2
          have hkk : (k1 == k2) = true := by
            rcases o3'.out with ⟨_, h2⟩ | h2
            · exact absurd (by simpa using h2) hk2
            · simpa using h2
          clear hk2
          go_wp2_with fail
          go_ret
          exact ⟨rfl, hb08⟩
      · have hk1' : (a.order == b.order) = false := by simpa using hk1
        have hkk : (k1 == k2) = true := by
          rcases o3'.out with ⟨h2, _⟩ | h2
          · exact absurd (by simpa using h2) hk1
          · simpa using h2
        clear hk1
        go_wp2_with fail
        go_ret
        exact ⟨rfl, hb08⟩
    · have hfb : (f != 0) = true := by simpa using hf
      subst he
      clear hf
      go_wp2_with fail
      refine (holdsBegun _).mono ?_
      rintro e W3 ⟨rfl, hb3⟩
      go_wp2_with fail
      go_ret
      exact ⟨rfl, hb02.trans (hb3.mono hb02.size)⟩
  · have heb : (e != 0) = true := by simpa using he
    clear he
    go_wp2_with fail
    refine (holdsBegun _).mono ?_
    rintro e W3 ⟨rfl, hb3⟩
    go_wp2_with fail
    go_ret
    exact ⟨rfl, hb02.trans (hb3.mono hb02.size)⟩
end Wh
