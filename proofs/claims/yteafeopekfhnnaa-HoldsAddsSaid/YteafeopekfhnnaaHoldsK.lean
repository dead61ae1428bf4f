/- HoldsTrue, HoldsOrder: the laws' walks -/
import Derived.Test.YteafeopekfhnnaaHoldsJ
import Derived.Test.YteafeopekfhnnaaOpenH
namespace Wh
open Go Go.RowKit Go.Shelf Go.Proofs
attribute [local go_sem] run_indexAt_letter

theorem holdsAddsWalk' (w : World) (v vh : Value) (l : List Hold) (h : Hold) (hv : Sl cHold w w.heap.size v l) (hh : HoldV vh h) :
    Calls Try.prog 9 #[v, vh] w fun e w' => e = .returned (.bool true) ∧ Below w.heap.size w w' := by
  obtain rfl := hh
  exact holdsAddsWalk w v l h hv

theorem drop_length (l : List Hold) (o ln b : Int) : (drop l o ln b).1.length ≤ 1000 := by
  cases hok : holdsOk l
  · rw [drop_bad hok]; simp
  · have h72 := ok_length hok
    cases hf : found l ⟨o, ln, b, 0⟩
    · rw [drop_none hok hf]; simp
    · rw [drop_yes hok hf]
      have := List.length_eraseIdx_le l (pos l ⟨o, ln, b, 0⟩)
      simp only; omega

set_option maxHeartbeats 4000000 in
theorem holdsTrueWalk (w : World) (v vh : Value) (l : List Hold) (h : Hold) (hv : Sl cHold w w.heap.size v l) (hh : HoldV vh h) :
    Calls Try.prog 10 #[v, vh] w fun e w' => e = .returned (.bool true) ∧ Below w.heap.size w w' := by
  obtain rfl := hh
  have hV := hv
  obtain ⟨A, c, rfl, hl, hA⟩ := hv
  have hb0 : Below w.heap.size w (w.alloc (.cells #[.int .i64 (h).order, .int .i64 (h).line, .int .i64 (h).bin, .int .i64 (h).n] 58)) := (Below.refl _ _).alloc (Nat.le_refl _) _
  have hdl := add_length l h
  have ht := @holds_true l h
  have c1 := fun W (hs : Sl cHold W W.heap.size (.slice A l.length c) l) => hdAdd W _ l h hs
  unfold AddPost at c1
  obtain ⟨D, hD⟩ : ∃ D, D = add l h := ⟨_, rfl⟩
  rw [← hD] at c1 hdl ht
  obtain ⟨m, e⟩ := D
  simp only at c1 hdl ht
  have hD' := Lib.hid hD
  have c1' := Lib.hid c1
  have ht' := Lib.hid ht
  clear c1 ht hD
  unfold vHold
  by_cases he : e = 0
  · subst he
    obtain ⟨t1, t2, t3, t4, t5, t6⟩ := ht'.out rfl
    clear ht'
    have n1 : 1 ≤ h.n ∧ h.n ≤ 200 := by
      have := add_right (l := l) (h := h) (by rw [← hD'.out])
      exact (fine_iff.1 this.2.1).2
    have n2 := kept_range t1 h.order h.line
    have hke1 : keptE l h.order h.line = (kept l h.order h.line, 0) := by unfold keptE; rw [t1]; rfl
    have hke2 : keptE m h.order h.line = (kept m h.order h.line, 0) := by unfold keptE; rw [t2]; rfl
    have hck : checkHolds m = 0 := check_ok.2 t2
    have d1l := drop_length m h.order h.line h.bin
    have d2l := drop_length l h.order h.line h.bin
    have h72 := ok_length t1
    have c3 := fun W (hs : Sl cHold W W.heap.size (.slice A l.length c) l) => hdKept W _ l h.order h.line hs
    have c4 := fun W u (hs : Sl cHold W W.heap.size u m) => hdKept W u m h.order h.line hs
    have c5 := fun W u (hs : Sl cHold W W.heap.size u m) => hdDrop W u m h.order h.line h.bin hs
    have c6 := fun W (hs : Sl cHold W W.heap.size (.slice A l.length c) l) => hdDrop W _ l h.order h.line h.bin hs
    have c7 := fun W u (hs : Sl cHold W W.heap.size u m) => hdCheck W u m hs
    unfold DropPost at c5 c6
    rw [hke1] at c3
    rw [hke2] at c4
    rw [hck] at c7
    rw [t3] at c4
    generalize drop m h.order h.line h.bin = X at t4 t5 t6 c5 d1l
    generalize drop l h.order h.line h.bin = Y at t6 c6 d2l
    generalize kept l h.order h.line = kl at c3 c4 n2
    obtain ⟨x1, x2, x3⟩ := X
    obtain ⟨y1, y2, y3⟩ := Y
    simp only at t4 t5 t6 c5 c6 d1l d2l
    subst t4
    have hw1 : IntKind.i64.wrap (kl + h.n) = kl + h.n := by rw [IntKind.wrap_i64]; omega
    have c3' := Lib.hid c3
    have c4' := Lib.hid c4
    have c5' := Lib.hid c5
    have c6' := Lib.hid c6
    have c7' := Lib.hid c7
    have t6' := Lib.hid t6
    clear c3 c4 c5 c6 c7 t6 t1 t2 t3 hke1 hke2 hck hw1
    go_enter Try.func10, Try.ntmps10
    go_wp2_with fail
    refine (c1'.out _ (hV.grow hb0)).mono ?_
    rintro e W1 ⟨u1, rfl, hu1, hb1⟩
    have hA1 := hb1
    have hb01 := hb0.trans (hA1.mono hb0.size)
    have s1 := hu1.sl (by omega)
    obtain ⟨hc1, hf1⟩ := bcell hA1
    go_wp2_with fail
    refine (c3'.out _ (hV.grow hb01)).mono ?_
    rintro e W2 ⟨rfl, hb2⟩
    have hA2 := hA1.trans (hb2.mono hA1.size)
    have hb02 := hb0.trans (hA2.mono hb0.size)
    have s2 := s1.grow hb2
    clear hc1 hf1
    obtain ⟨hc1, hf1⟩ := bcell hA2
    go_wp2_with fail
    refine (c4'.out _ _ s2).mono ?_
    rintro e W3 ⟨rfl, hb3⟩
    have hA3 := hA2.trans (hb3.mono hA2.size)
    have hb03 := hb0.trans (hA3.mono hb0.size)
    have s3 := s2.grow hb3
    clear hc1 hf1
    obtain ⟨hc1, hf1⟩ := bcell hA3
    go_wp2_with fail
    refine (c5'.out _ _ s3).mono ?_
    rintro e W4 ⟨u4, rfl, hu4, hb4⟩
    have hA4 := hA3.trans (hb4.mono hA3.size)
    have hb04 := hb0.trans (hA4.mono hb0.size)
    have s4 := s3.grow hb4
    have r4 := hu4.sl (by omega)
    clear hc1 hf1
    obtain ⟨hc1, hf1⟩ := bcell hA4
    go_wp2_with fail
    refine (c6'.out _ (hV.grow hb04)).mono ?_
    rintro e W5 ⟨u5, rfl, hu5, hb5⟩
    have hA5 := hA4.trans (hb5.mono hA4.size)
    have hb05 := hb0.trans (hA5.mono hb0.size)
    have s5 := s4.grow hb5
    have r5 := r4.grow hb5
    have p5 := hu5.sl (by omega)
    clear hc1 hf1
    by_cases hy : y3 = 4
    · have hx : x1 = l := by rw [t6'.out, if_pos hy]
      subst hy
      go_wp2_with fail
      refine (holdsBegun _).mono ?_
      rintro e W6 ⟨rfl, hb6⟩
      have hA6 := hA5.trans (hb6.mono hA5.size)
      have hb06 := hb0.trans (hA6.mono hb0.size)
      have s6 := s5.grow hb6
      have r6 := r5.grow hb6
      obtain ⟨hc1, hf1⟩ := bcell hA6
      go_wp2_with fail
      refine (c7'.out _ _ s6).mono ?_
      rintro e W7 ⟨rfl, hb7⟩
      have hA7 := hA6.trans (hb7.mono hA6.size)
      have hb07 := hb0.trans (hA7.mono hb0.size)
      have r7 := r6.grow hb7
      clear hc1 hf1
      obtain ⟨hc1, hf1⟩ := bcell hA7
      have hx' := Lib.hid hx
      clear hx
      go_wp2_with fail
      refine (rSameHolds _ _ _ x1 l r7 (hV.grow hb07)).mono ?_
      rintro e W8 ⟨rfl, hb8⟩
      go_wp2_with fail
      go_ret
      exact ⟨ret_bool (decide_eq_true hx'.out), hb07.trans (hb8.mono hb07.size)⟩
    · have hx : x1 = y1 := by rw [t6'.out, if_neg hy]
      have hyb : (y3 == 4) = false := by simpa using hy
      clear hy
      go_wp2_with fail
      refine (holdsBegun _).mono ?_
      rintro e W6 ⟨rfl, hb6⟩
      have hA6 := hA5.trans (hb6.mono hA5.size)
      have hb06 := hb0.trans (hA6.mono hb0.size)
      have s6 := s5.grow hb6
      have r6 := r5.grow hb6
      have p6 := p5.grow hb6
      obtain ⟨hc1, hf1⟩ := bcell hA6
      go_wp2_with fail
      refine (c7'.out _ _ s6).mono ?_
      rintro e W7 ⟨rfl, hb7⟩
      have hA7 := hA6.trans (hb7.mono hA6.size)
      have hb07 := hb0.trans (hA7.mono hb0.size)
      have r7 := r6.grow hb7
      have p7 := p6.grow hb7
      clear hc1 hf1
      obtain ⟨hc1, hf1⟩ := bcell hA7
      have hx' := Lib.hid hx
      clear hx
      go_wp2_with fail
      refine (rSameHolds _ _ _ x1 y1 r7 p7).mono ?_
      rintro e W8 ⟨rfl, hb8⟩
      go_wp2_with fail
      go_ret
      exact ⟨ret_bool (decide_eq_true hx'.out), hb07.trans (hb8.mono hb07.size)⟩
  · have heb : (e != 0) = true := by simpa using he
    go_enter Try.func10, Try.ntmps10
    go_wp2_with fail
    refine (c1'.out _ (hV.grow hb0)).mono ?_
    rintro e W1 ⟨u1, rfl, hu1, hb1⟩
    have hb01 := hb0.trans (hb1.mono hb0.size)
    go_wp2_with fail
    refine (holdsBegun _).mono ?_
    rintro e W2 ⟨rfl, hb2⟩
    go_wp2_with fail
    go_ret
    exact ⟨rfl, hb01.trans (hb2.mono hb01.size)⟩
end Wh
