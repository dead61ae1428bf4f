/- Texts of the claim, joined: LogL, Open. -/
import Derived.SizedLaws
import Derived.Deep.Slices
import Derived.Deep.Fields
import Derived.ChangeSame
import Derived.ChangeOld
import Derived.Carry
import Derived.Test.YtfhfkijmebhgmaaGreatQ33
import Derived.Test.YtfhfkijmebhgmaaGreatQ37
import Derived.Test.YtfhfkijmebhgmaaGreatQ01
namespace Wh
open Go Go.RowKit Go.Shelf Go.Proofs
attribute [local go_sem] run_indexAt_letter evL_tmp evL_const evL_func

theorem act_kinds {p : Plan} {s y : State} {x : Deed} (h : act p s x = (y, 0)) : x.kind = 1 ∨ x.kind = 2 ∨ x.kind = 3 ∨ x.kind = 4 ∨ x.kind = 5 ∨ x.kind = 6 ∨ x.kind = 7 ∨ x.kind = 8 := by
  by_cases h1 : x.kind = 1
  · exact .inl h1
  by_cases h2 : x.kind = 2
  · exact .inr (.inl h2)
  by_cases h3 : x.kind = 3
  · exact .inr (.inr (.inl h3))
  by_cases h4 : x.kind = 4
  · exact .inr (.inr (.inr (.inl h4)))
  by_cases h5 : x.kind = 5
  · exact .inr (.inr (.inr (.inr (.inl h5))))
  by_cases h6 : x.kind = 6
  · exact .inr (.inr (.inr (.inr (.inr (.inl h6)))))
  by_cases h7 : x.kind = 7
  · exact .inr (.inr (.inr (.inr (.inr (.inr (.inl h7))))))
  by_cases h8 : x.kind = 8
  · exact .inr (.inr (.inr (.inr (.inr (.inr (.inr h8))))))
  unfold act at h
  rw [if_neg h1, if_neg h2, if_neg h3, if_neg h4, if_neg h5, if_neg h6, if_neg h7, if_neg h8] at h
  injection h with _ h
  cases h

set_option maxHeartbeats 20000000 in
set_option maxRecDepth 100000 in
theorem logRightWalk (w : World) (v vs vd : Value) (p : Plan) (s : State) (x : Deed) (n : Int) (hp : PlanV w w.heap.size v p) (hv : StateV w w.heap.size vs s) (hd : DeedV w w.heap.size vd x) :
    Calls Tryz.prog 13 #[v, vs, vd, .int .i64 n] w fun e w' => e = .returned (.bool true) ∧ Below w.heap.size w w' := by
  obtain ⟨y, c, hT⟩ : ∃ y c, act p s x = (y, c) := ⟨_, _, rfl⟩
  have hT' := Lib.hid hT
  have hsm := Lib.hid (show small y = true by have := deed_small p s x; rwa [hT] at this)
  obtain ⟨Ab, cb, As, cs, rfl, hP', hBn, hSz, hlb, hls⟩ := openPl hp
  obtain ⟨A0, c0, A1, c1, A2, c2, A3, c3, A4, c4, A5, c5, A6, c6, rfl, hV, hN, hO, hH, hM, hI, hU, hX, hl0, hl1, hl2, hl3, hl4, hl5, hl6⟩ := openOne hv
  obtain ⟨Al, cl, rfl, hDV, hLn, hll⟩ := openDeed hd
  obtain ⟨kd, xa, xb, xc, xn, l⟩ := x
  simp only at hDV hLn hll
  clear hd hp hv
  go_enter Tryz.func13, Tryz.ntmps13
  go_wp2_with fail
  obtain ⟨W0, hW0, hb0, hsE, hK, hD⟩ := boxesDeed w p s Ab cb As cs A0 c0 A1 c1 A2 c2 A3 c3 A4 c4 A5 c5 A6 c6 kd xa xb xc xn Al l.length cl
  rw [hW0]
  clear hW0
  obtain ⟨d0, d1, d2, d3, d4, d5, dl⟩ := hD.out _ (Below.refl _ _)
  obtain ⟨⟨y0, y1⟩, x0, x1, x2, x3, x4, x5, x6, hbz0, hbz1⟩ := hK.out W0 (Below.refl W0.heap.size W0)
  go_wp2_with fail
  clear y0 y1 x0 x1 x2 x3 x4 x5 x6 hbz0 hbz1
  clear d0 d1 d2 d3 d4 d5 dl
  refine (lgDoAt hT'.out _ _ _ _ (hP'.out _ hb0) (hV.out _ hb0) (hDV.out _ hb0)).mono ?_
  rintro e W1 ⟨V1, rfl, ho1, hb1⟩
  have hone2 := (ho1).one
  have hnb2 := newBox (W1)
  go_wp2_with (refine wpList_store_state rfl (.tmp 9) (.tmp 19) rfl rfl (World.heap (W1)).size nilSV V1 hnb2 rfl rfl hone2 (fun w2 hbox2 hg2 => ?_); refine Hid.out ?_)
  unfold Hid
  have hbb2 := newBelow hg2
  have hbl2 := hbox2.lt
  clear hone2 hnb2 hg2
  have h02 := hb1.trans (hbb2.mono hb1.size)
  have hB2 := hb0.trans (h02.mono hb0.size)
  have hv2 := Lib.hid ((ho1.below hbb2).view0 hsm.out)
  have hbox2' := Lib.hid hbox2
  clear hbox2 ho1 hb1 hbb2
  generalize W1.heap.size = bx at hbox2' hbl2 ⊢
  by_cases hc : c = 0
  · subst hc
    have hcy := (act_kept (p := p) (s := s) (x := ⟨kd, xa, xb, xc, xn, l⟩) (by rw [hT])).2.check
    rw [hT] at hcy
    simp only at hcy
    have hcy' := Lib.hid hcy
    have hkd := act_kinds hT
    simp only at hkd
    clear hT hcy
    rcases hkd with rfl | rfl | rfl | rfl | rfl | rfl | rfl | rfl
    · obtain ⟨d0, d1, d2, d3, d4, d5, dl⟩ := hD.out _ h02
      have lw2 : w2.heap.size < w2.heap.size + 1 := Nat.lt_succ_self _
      obtain ⟨⟨y0, y1⟩, x0, x1, x2, x3, x4, x5, x6, hbz0, hbz1⟩ := hK.out w2 (h02)
      go_wp2_with fail
      clear y0 y1 x0 x1 x2 x3 x4 x5 x6 hbz0 hbz1
      clear d0 d1 d2 d3 d4 d5 dl
      have hb3 : Below w2.heap.size w2 (w2.alloc (.cells #[.int .i64 1, .int .i64 xa, .int .i64 xb, .int .i64 n, .int .i64 xn, .slice Al l.length cl] 34)) := (Below.refl w2.heap.size w2).alloc (Nat.le_refl _) _
      generalize (w2.alloc (.cells #[.int .i64 1, .int .i64 xa, .int .i64 xb, .int .i64 n, .int .i64 xn, .slice Al l.length cl] 34)) = W3 at hb3 ⊢
      have h03 := h02.trans (hb3.mono h02.size)
      have hB3 := hb0.trans (h03.mono hb0.size)
      refine (lgDoAt (x := ⟨1, xa, xb, n, xn, l⟩) hT'.out _ _ _ _ (hP'.out _ hB3) (hV.out _ hB3) ⟨_, rfl, hLn.out _ hB3⟩).mono ?_
      rintro e W4 ⟨V4, rfl, ho4, hb4⟩
      have hone6 := (ho4).one
      have hnb6 := newBox (W4)
      go_wp2_with (refine wpList_store_state rfl (.tmp 12) (.tmp 63) rfl rfl (World.heap (W4)).size nilSV V4 hnb6 rfl rfl hone6 (fun w6 hbox6 hg6 => ?_); refine Hid.out ?_)
      unfold Hid
      have hbb6 := newBelow hg6
      have hbl6 := hbox6.lt
      clear hone6 hnb6 hg6
      have h36 := hb4.trans (hbb6.mono hb4.size)
      have h26 := hb3.trans (h36.mono hb3.size)
      have h06 := h03.trans (h36.mono h03.size)
      have hB6 := hb0.trans (h06.mono hb0.size)
      have hv6 := Lib.hid ((ho4.below hbb6).view0 hsm.out)
      have hbox6' := Lib.hid hbox6
      have hv2' := Lib.hid (hv2.out.grow h26)
      have hbox2'' := Lib.hid (hbox2'.out.below h26 hbl2)
      have hbl2'' := Nat.lt_of_lt_of_le hbl2 h26.size
      clear hbox6 ho4 hb4 hbb6 h36 h26 h03 hB3 hb3 lw2
      go_wp2_with fail
      refine (logBegun _).mono ?_
      rintro e W7 ⟨rfl, h7⟩
      have h07 := h06.trans (h7.mono h06.size)
      have hB7 := hb0.trans (h07.mono hb0.size)
      obtain ⟨p0, p1, p2, p3, p4, p5, p6⟩ := (hbox2''.out.below h7 hbl2'').cells
      obtain ⟨q0, q1, q2, q3, q4, q5, q6⟩ := (hbox6'.out.below h7 hbl6).cells
      have hx1 := hv2'.out.grow h7
      have hx2 := hv6.out.grow h7
      have tl2 := Nat.lt_of_lt_of_le hbl2'' h7.size
      have tl6 := Nat.lt_of_lt_of_le hbl6 h7.size
      obtain ⟨⟨y0, y1⟩, x0, x1, x2, x3, x4, x5, x6, hbz0, hbz1⟩ := hK.out W7 (h07)
      go_wp2_with fail
      clear y0 y1 x0 x1 x2 x3 x4 x5 x6 hbz0 hbz1
      refine (sCheckAt _ _ _ (hP'.out _ hB7) hx1 hcy'.out).mono ?_
      rintro e W8 ⟨rfl, h8⟩
      have hB8 := hB7.trans (h8.mono hB7.size)
      clear p0 p1 p2 p3 p4 p5 p6 q0 q1 q2 q3 q4 q5 q6
      obtain ⟨p0, p1, p2, p3, p4, p5, p6⟩ := ((hbox2''.out.below h7 hbl2'').below h8 tl2).cells
      obtain ⟨q0, q1, q2, q3, q4, q5, q6⟩ := ((hbox6'.out.below h7 hbl6).below h8 tl6).cells
      have hx1' := hx1.grow h8
      have hx2' := hx2.grow h8
      go_wp2_with fail
      clear p0 p1 p2 p3 p4 p5 p6 q0 q1 q2 q3 q4 q5 q6
      refine (rSameStates _ _ _ _ hx1' hx2').mono ?_
      rintro e W9 ⟨rfl, h9⟩
      go_wp2_with fail
      go_ret
      exact ⟨rfl, hB8.trans (h9.mono hB8.size)⟩
    · obtain ⟨d0, d1, d2, d3, d4, d5, dl⟩ := hD.out _ h02
      have lw2 : w2.heap.size < w2.heap.size + 1 := Nat.lt_succ_self _
      obtain ⟨⟨y0, y1⟩, x0, x1, x2, x3, x4, x5, x6, hbz0, hbz1⟩ := hK.out w2 (h02)
      go_wp2_with fail
      clear y0 y1 x0 x1 x2 x3 x4 x5 x6 hbz0 hbz1
      clear d0 d1 d2 d3 d4 d5 dl
      have hb3 : Below w2.heap.size w2 (w2.alloc (.cells #[.int .i64 2, .int .i64 n, .int .i64 n, .int .i64 n, .int .i64 n, .slice Al l.length cl] 34)) := (Below.refl w2.heap.size w2).alloc (Nat.le_refl _) _
      generalize (w2.alloc (.cells #[.int .i64 2, .int .i64 n, .int .i64 n, .int .i64 n, .int .i64 n, .slice Al l.length cl] 34)) = W3 at hb3 ⊢
      have h03 := h02.trans (hb3.mono h02.size)
      have hB3 := hb0.trans (h03.mono hb0.size)
      refine (lgDoAt (x := ⟨2, n, n, n, n, l⟩) hT'.out _ _ _ _ (hP'.out _ hB3) (hV.out _ hB3) ⟨_, rfl, hLn.out _ hB3⟩).mono ?_
      rintro e W4 ⟨V4, rfl, ho4, hb4⟩
      have hone6 := (ho4).one
      have hnb6 := newBox (W4)
      go_wp2_with (refine wpList_store_state rfl (.tmp 12) (.tmp 63) rfl rfl (World.heap (W4)).size nilSV V4 hnb6 rfl rfl hone6 (fun w6 hbox6 hg6 => ?_); refine Hid.out ?_)
      unfold Hid
      have hbb6 := newBelow hg6
      have hbl6 := hbox6.lt
      clear hone6 hnb6 hg6
      have h36 := hb4.trans (hbb6.mono hb4.size)
      have h26 := hb3.trans (h36.mono hb3.size)
      have h06 := h03.trans (h36.mono h03.size)
      have hB6 := hb0.trans (h06.mono hb0.size)
      have hv6 := Lib.hid ((ho4.below hbb6).view0 hsm.out)
      have hbox6' := Lib.hid hbox6
      have hv2' := Lib.hid (hv2.out.grow h26)
      have hbox2'' := Lib.hid (hbox2'.out.below h26 hbl2)
      have hbl2'' := Nat.lt_of_lt_of_le hbl2 h26.size
      clear hbox6 ho4 hb4 hbb6 h36 h26 h03 hB3 hb3 lw2
      go_wp2_with fail
      refine (logBegun _).mono ?_
      rintro e W7 ⟨rfl, h7⟩
      have h07 := h06.trans (h7.mono h06.size)
      have hB7 := hb0.trans (h07.mono hb0.size)
      obtain ⟨p0, p1, p2, p3, p4, p5, p6⟩ := (hbox2''.out.below h7 hbl2'').cells
      obtain ⟨q0, q1, q2, q3, q4, q5, q6⟩ := (hbox6'.out.below h7 hbl6).cells
      have hx1 := hv2'.out.grow h7
      have hx2 := hv6.out.grow h7
      have tl2 := Nat.lt_of_lt_of_le hbl2'' h7.size
      have tl6 := Nat.lt_of_lt_of_le hbl6 h7.size
      obtain ⟨⟨y0, y1⟩, x0, x1, x2, x3, x4, x5, x6, hbz0, hbz1⟩ := hK.out W7 (h07)
      go_wp2_with fail
      clear y0 y1 x0 x1 x2 x3 x4 x5 x6 hbz0 hbz1
      refine (sCheckAt _ _ _ (hP'.out _ hB7) hx1 hcy'.out).mono ?_
      rintro e W8 ⟨rfl, h8⟩
      have hB8 := hB7.trans (h8.mono hB7.size)
      clear p0 p1 p2 p3 p4 p5 p6 q0 q1 q2 q3 q4 q5 q6
      obtain ⟨p0, p1, p2, p3, p4, p5, p6⟩ := ((hbox2''.out.below h7 hbl2'').below h8 tl2).cells
      obtain ⟨q0, q1, q2, q3, q4, q5, q6⟩ := ((hbox6'.out.below h7 hbl6).below h8 tl6).cells
      have hx1' := hx1.grow h8
      have hx2' := hx2.grow h8
      go_wp2_with fail
      clear p0 p1 p2 p3 p4 p5 p6 q0 q1 q2 q3 q4 q5 q6
      refine (rSameStates _ _ _ _ hx1' hx2').mono ?_
      rintro e W9 ⟨rfl, h9⟩
      go_wp2_with fail
      go_ret
      exact ⟨rfl, hB8.trans (h9.mono hB8.size)⟩
    · obtain ⟨d0, d1, d2, d3, d4, d5, dl⟩ := hD.out _ h02
      have lw2 : w2.heap.size < w2.heap.size + 1 := Nat.lt_succ_self _
      obtain ⟨⟨y0, y1⟩, x0, x1, x2, x3, x4, x5, x6, hbz0, hbz1⟩ := hK.out w2 (h02)
      go_wp2_with fail
      clear y0 y1 x0 x1 x2 x3 x4 x5 x6 hbz0 hbz1
      clear d0 d1 d2 d3 d4 d5 dl
      have hb3 : Below w2.heap.size w2 (w2.alloc (.cells #[.int .i64 3, .int .i64 n, .int .i64 n, .int .i64 n, .int .i64 n, .slice Al l.length cl] 34)) := (Below.refl w2.heap.size w2).alloc (Nat.le_refl _) _
      generalize (w2.alloc (.cells #[.int .i64 3, .int .i64 n, .int .i64 n, .int .i64 n, .int .i64 n, .slice Al l.length cl] 34)) = W3 at hb3 ⊢
      have h03 := h02.trans (hb3.mono h02.size)
      have hB3 := hb0.trans (h03.mono hb0.size)
      refine (lgDoAt (x := ⟨3, n, n, n, n, l⟩) hT'.out _ _ _ _ (hP'.out _ hB3) (hV.out _ hB3) ⟨_, rfl, hLn.out _ hB3⟩).mono ?_
      rintro e W4 ⟨V4, rfl, ho4, hb4⟩
      have hone6 := (ho4).one
      have hnb6 := newBox (W4)
      go_wp2_with (refine wpList_store_state rfl (.tmp 12) (.tmp 63) rfl rfl (World.heap (W4)).size nilSV V4 hnb6 rfl rfl hone6 (fun w6 hbox6 hg6 => ?_); refine Hid.out ?_)
      unfold Hid
      have hbb6 := newBelow hg6
      have hbl6 := hbox6.lt
      clear hone6 hnb6 hg6
      have h36 := hb4.trans (hbb6.mono hb4.size)
      have h26 := hb3.trans (h36.mono hb3.size)
      have h06 := h03.trans (h36.mono h03.size)
      have hB6 := hb0.trans (h06.mono hb0.size)
      have hv6 := Lib.hid ((ho4.below hbb6).view0 hsm.out)
      have hbox6' := Lib.hid hbox6
      have hv2' := Lib.hid (hv2.out.grow h26)
      have hbox2'' := Lib.hid (hbox2'.out.below h26 hbl2)
      have hbl2'' := Nat.lt_of_lt_of_le hbl2 h26.size
      clear hbox6 ho4 hb4 hbb6 h36 h26 h03 hB3 hb3 lw2
      go_wp2_with fail
      refine (logBegun _).mono ?_
      rintro e W7 ⟨rfl, h7⟩
      have h07 := h06.trans (h7.mono h06.size)
      have hB7 := hb0.trans (h07.mono hb0.size)
      obtain ⟨p0, p1, p2, p3, p4, p5, p6⟩ := (hbox2''.out.below h7 hbl2'').cells
      obtain ⟨q0, q1, q2, q3, q4, q5, q6⟩ := (hbox6'.out.below h7 hbl6).cells
      have hx1 := hv2'.out.grow h7
      have hx2 := hv6.out.grow h7
      have tl2 := Nat.lt_of_lt_of_le hbl2'' h7.size
      have tl6 := Nat.lt_of_lt_of_le hbl6 h7.size
      obtain ⟨⟨y0, y1⟩, x0, x1, x2, x3, x4, x5, x6, hbz0, hbz1⟩ := hK.out W7 (h07)
      go_wp2_with fail
      clear y0 y1 x0 x1 x2 x3 x4 x5 x6 hbz0 hbz1
      refine (sCheckAt _ _ _ (hP'.out _ hB7) hx1 hcy'.out).mono ?_
      rintro e W8 ⟨rfl, h8⟩
      have hB8 := hB7.trans (h8.mono hB7.size)
      clear p0 p1 p2 p3 p4 p5 p6 q0 q1 q2 q3 q4 q5 q6
      obtain ⟨p0, p1, p2, p3, p4, p5, p6⟩ := ((hbox2''.out.below h7 hbl2'').below h8 tl2).cells
      obtain ⟨q0, q1, q2, q3, q4, q5, q6⟩ := ((hbox6'.out.below h7 hbl6).below h8 tl6).cells
      have hx1' := hx1.grow h8
      have hx2' := hx2.grow h8
      go_wp2_with fail
      clear p0 p1 p2 p3 p4 p5 p6 q0 q1 q2 q3 q4 q5 q6
      refine (rSameStates _ _ _ _ hx1' hx2').mono ?_
      rintro e W9 ⟨rfl, h9⟩
      go_wp2_with fail
      go_ret
      exact ⟨rfl, hB8.trans (h9.mono hB8.size)⟩
    · obtain ⟨d0, d1, d2, d3, d4, d5, dl⟩ := hD.out _ h02
      have lw2 : w2.heap.size < w2.heap.size + 1 := Nat.lt_succ_self _
      obtain ⟨⟨y0, y1⟩, x0, x1, x2, x3, x4, x5, x6, hbz0, hbz1⟩ := hK.out w2 (h02)
      go_wp2_with fail
      clear y0 y1 x0 x1 x2 x3 x4 x5 x6 hbz0 hbz1
      clear d0 d1 d2 d3 d4 d5 dl
      have hb3 : Below w2.heap.size w2 (w2.alloc (.cells #[.int .i64 4, .int .i64 xa, .int .i64 n, .int .i64 n, .int .i64 n, .slice Al l.length cl] 34)) := (Below.refl w2.heap.size w2).alloc (Nat.le_refl _) _
      generalize (w2.alloc (.cells #[.int .i64 4, .int .i64 xa, .int .i64 n, .int .i64 n, .int .i64 n, .slice Al l.length cl] 34)) = W3 at hb3 ⊢
      have h03 := h02.trans (hb3.mono h02.size)
      have hB3 := hb0.trans (h03.mono hb0.size)
      refine (lgDoAt (x := ⟨4, xa, n, n, n, l⟩) hT'.out _ _ _ _ (hP'.out _ hB3) (hV.out _ hB3) ⟨_, rfl, hLn.out _ hB3⟩).mono ?_
      rintro e W4 ⟨V4, rfl, ho4, hb4⟩
      have hone6 := (ho4).one
      have hnb6 := newBox (W4)
      go_wp2_with (refine wpList_store_state rfl (.tmp 12) (.tmp 63) rfl rfl (World.heap (W4)).size nilSV V4 hnb6 rfl rfl hone6 (fun w6 hbox6 hg6 => ?_); refine Hid.out ?_)
      unfold Hid
      have hbb6 := newBelow hg6
      have hbl6 := hbox6.lt
      clear hone6 hnb6 hg6
      have h36 := hb4.trans (hbb6.mono hb4.size)
      have h26 := hb3.trans (h36.mono hb3.size)
      have h06 := h03.trans (h36.mono h03.size)
      have hB6 := hb0.trans (h06.mono hb0.size)
      have hv6 := Lib.hid ((ho4.below hbb6).view0 hsm.out)
      have hbox6' := Lib.hid hbox6
      have hv2' := Lib.hid (hv2.out.grow h26)
      have hbox2'' := Lib.hid (hbox2'.out.below h26 hbl2)
      have hbl2'' := Nat.lt_of_lt_of_le hbl2 h26.size
      clear hbox6 ho4 hb4 hbb6 h36 h26 h03 hB3 hb3 lw2
      go_wp2_with fail
      refine (logBegun _).mono ?_
      rintro e W7 ⟨rfl, h7⟩
      have h07 := h06.trans (h7.mono h06.size)
      have hB7 := hb0.trans (h07.mono hb0.size)
      obtain ⟨p0, p1, p2, p3, p4, p5, p6⟩ := (hbox2''.out.below h7 hbl2'').cells
      obtain ⟨q0, q1, q2, q3, q4, q5, q6⟩ := (hbox6'.out.below h7 hbl6).cells
      have hx1 := hv2'.out.grow h7
      have hx2 := hv6.out.grow h7
      have tl2 := Nat.lt_of_lt_of_le hbl2'' h7.size
      have tl6 := Nat.lt_of_lt_of_le hbl6 h7.size
      obtain ⟨⟨y0, y1⟩, x0, x1, x2, x3, x4, x5, x6, hbz0, hbz1⟩ := hK.out W7 (h07)
      go_wp2_with fail
      clear y0 y1 x0 x1 x2 x3 x4 x5 x6 hbz0 hbz1
      refine (sCheckAt _ _ _ (hP'.out _ hB7) hx1 hcy'.out).mono ?_
      rintro e W8 ⟨rfl, h8⟩
      have hB8 := hB7.trans (h8.mono hB7.size)
      clear p0 p1 p2 p3 p4 p5 p6 q0 q1 q2 q3 q4 q5 q6
      obtain ⟨p0, p1, p2, p3, p4, p5, p6⟩ := ((hbox2''.out.below h7 hbl2'').below h8 tl2).cells
      obtain ⟨q0, q1, q2, q3, q4, q5, q6⟩ := ((hbox6'.out.below h7 hbl6).below h8 tl6).cells
      have hx1' := hx1.grow h8
      have hx2' := hx2.grow h8
      go_wp2_with fail
      clear p0 p1 p2 p3 p4 p5 p6 q0 q1 q2 q3 q4 q5 q6
      refine (rSameStates _ _ _ _ hx1' hx2').mono ?_
      rintro e W9 ⟨rfl, h9⟩
      go_wp2_with fail
      go_ret
      exact ⟨rfl, hB8.trans (h9.mono hB8.size)⟩
    · obtain ⟨d0, d1, d2, d3, d4, d5, dl⟩ := hD.out _ h02
      have lw2 : w2.heap.size < w2.heap.size + 1 := Nat.lt_succ_self _
      obtain ⟨⟨y0, y1⟩, x0, x1, x2, x3, x4, x5, x6, hbz0, hbz1⟩ := hK.out w2 (h02)
      go_wp2_with fail
      clear y0 y1 x0 x1 x2 x3 x4 x5 x6 hbz0 hbz1
      clear d0 d1 d2 d3 d4 d5 dl
      have hb3 : Below w2.heap.size w2 (w2.alloc (.cells #[.int .i64 5, .int .i64 xa, .int .i64 xb, .int .i64 xc, .int .i64 xn, .slice Al l.length cl] 34)) := (Below.refl w2.heap.size w2).alloc (Nat.le_refl _) _
      generalize (w2.alloc (.cells #[.int .i64 5, .int .i64 xa, .int .i64 xb, .int .i64 xc, .int .i64 xn, .slice Al l.length cl] 34)) = W3 at hb3 ⊢
      have h03 := h02.trans (hb3.mono h02.size)
      have hB3 := hb0.trans (h03.mono hb0.size)
      refine (lgDoAt (x := ⟨5, xa, xb, xc, xn, l⟩) hT'.out _ _ _ _ (hP'.out _ hB3) (hV.out _ hB3) ⟨_, rfl, hLn.out _ hB3⟩).mono ?_
      rintro e W4 ⟨V4, rfl, ho4, hb4⟩
      have hone6 := (ho4).one
      have hnb6 := newBox (W4)
      go_wp2_with (refine wpList_store_state rfl (.tmp 12) (.tmp 63) rfl rfl (World.heap (W4)).size nilSV V4 hnb6 rfl rfl hone6 (fun w6 hbox6 hg6 => ?_); refine Hid.out ?_)
      unfold Hid
      have hbb6 := newBelow hg6
      have hbl6 := hbox6.lt
      clear hone6 hnb6 hg6
      have h36 := hb4.trans (hbb6.mono hb4.size)
      have h26 := hb3.trans (h36.mono hb3.size)
      have h06 := h03.trans (h36.mono h03.size)
      have hB6 := hb0.trans (h06.mono hb0.size)
      have hv6 := Lib.hid ((ho4.below hbb6).view0 hsm.out)
      have hbox6' := Lib.hid hbox6
      have hv2' := Lib.hid (hv2.out.grow h26)
      have hbox2'' := Lib.hid (hbox2'.out.below h26 hbl2)
      have hbl2'' := Nat.lt_of_lt_of_le hbl2 h26.size
      clear hbox6 ho4 hb4 hbb6 h36 h26 h03 hB3 hb3 lw2
      go_wp2_with fail
      refine (logBegun _).mono ?_
      rintro e W7 ⟨rfl, h7⟩
      have h07 := h06.trans (h7.mono h06.size)
      have hB7 := hb0.trans (h07.mono hb0.size)
      obtain ⟨p0, p1, p2, p3, p4, p5, p6⟩ := (hbox2''.out.below h7 hbl2'').cells
      obtain ⟨q0, q1, q2, q3, q4, q5, q6⟩ := (hbox6'.out.below h7 hbl6).cells
      have hx1 := hv2'.out.grow h7
      have hx2 := hv6.out.grow h7
      have tl2 := Nat.lt_of_lt_of_le hbl2'' h7.size
      have tl6 := Nat.lt_of_lt_of_le hbl6 h7.size
      obtain ⟨⟨y0, y1⟩, x0, x1, x2, x3, x4, x5, x6, hbz0, hbz1⟩ := hK.out W7 (h07)
      go_wp2_with fail
      clear y0 y1 x0 x1 x2 x3 x4 x5 x6 hbz0 hbz1
      refine (sCheckAt _ _ _ (hP'.out _ hB7) hx1 hcy'.out).mono ?_
      rintro e W8 ⟨rfl, h8⟩
      have hB8 := hB7.trans (h8.mono hB7.size)
      clear p0 p1 p2 p3 p4 p5 p6 q0 q1 q2 q3 q4 q5 q6
      obtain ⟨p0, p1, p2, p3, p4, p5, p6⟩ := ((hbox2''.out.below h7 hbl2'').below h8 tl2).cells
      obtain ⟨q0, q1, q2, q3, q4, q5, q6⟩ := ((hbox6'.out.below h7 hbl6).below h8 tl6).cells
      have hx1' := hx1.grow h8
      have hx2' := hx2.grow h8
      go_wp2_with fail
      clear p0 p1 p2 p3 p4 p5 p6 q0 q1 q2 q3 q4 q5 q6
      refine (rSameStates _ _ _ _ hx1' hx2').mono ?_
      rintro e W9 ⟨rfl, h9⟩
      go_wp2_with fail
      go_ret
      exact ⟨rfl, hB8.trans (h9.mono hB8.size)⟩
    · obtain ⟨d0, d1, d2, d3, d4, d5, dl⟩ := hD.out _ h02
      have lw2 : w2.heap.size < w2.heap.size + 1 := Nat.lt_succ_self _
      obtain ⟨⟨y0, y1⟩, x0, x1, x2, x3, x4, x5, x6, hbz0, hbz1⟩ := hK.out w2 (h02)
      go_wp2_with fail
      clear y0 y1 x0 x1 x2 x3 x4 x5 x6 hbz0 hbz1
      clear d0 d1 d2 d3 d4 d5 dl
      have hb3 : Below w2.heap.size w2 (w2.alloc (.cells #[.int .i64 6, .int .i64 n, .int .i64 n, .int .i64 n, .int .i64 n, .slice Al l.length cl] 34)) := (Below.refl w2.heap.size w2).alloc (Nat.le_refl _) _
      generalize (w2.alloc (.cells #[.int .i64 6, .int .i64 n, .int .i64 n, .int .i64 n, .int .i64 n, .slice Al l.length cl] 34)) = W3 at hb3 ⊢
      have h03 := h02.trans (hb3.mono h02.size)
      have hB3 := hb0.trans (h03.mono hb0.size)
      refine (lgDoAt (x := ⟨6, n, n, n, n, l⟩) hT'.out _ _ _ _ (hP'.out _ hB3) (hV.out _ hB3) ⟨_, rfl, hLn.out _ hB3⟩).mono ?_
      rintro e W4 ⟨V4, rfl, ho4, hb4⟩
      have hone6 := (ho4).one
      have hnb6 := newBox (W4)
      go_wp2_with (refine wpList_store_state rfl (.tmp 12) (.tmp 63) rfl rfl (World.heap (W4)).size nilSV V4 hnb6 rfl rfl hone6 (fun w6 hbox6 hg6 => ?_); refine Hid.out ?_)
      unfold Hid
      have hbb6 := newBelow hg6
      have hbl6 := hbox6.lt
      clear hone6 hnb6 hg6
      have h36 := hb4.trans (hbb6.mono hb4.size)
      have h26 := hb3.trans (h36.mono hb3.size)
      have h06 := h03.trans (h36.mono h03.size)
      have hB6 := hb0.trans (h06.mono hb0.size)
      have hv6 := Lib.hid ((ho4.below hbb6).view0 hsm.out)
      have hbox6' := Lib.hid hbox6
      have hv2' := Lib.hid (hv2.out.grow h26)
      have hbox2'' := Lib.hid (hbox2'.out.below h26 hbl2)
      have hbl2'' := Nat.lt_of_lt_of_le hbl2 h26.size
      clear hbox6 ho4 hb4 hbb6 h36 h26 h03 hB3 hb3 lw2
      go_wp2_with fail
      refine (logBegun _).mono ?_
      rintro e W7 ⟨rfl, h7⟩
      have h07 := h06.trans (h7.mono h06.size)
      have hB7 := hb0.trans (h07.mono hb0.size)
      obtain ⟨p0, p1, p2, p3, p4, p5, p6⟩ := (hbox2''.out.below h7 hbl2'').cells
      obtain ⟨q0, q1, q2, q3, q4, q5, q6⟩ := (hbox6'.out.below h7 hbl6).cells
      have hx1 := hv2'.out.grow h7
      have hx2 := hv6.out.grow h7
      have tl2 := Nat.lt_of_lt_of_le hbl2'' h7.size
      have tl6 := Nat.lt_of_lt_of_le hbl6 h7.size
      obtain ⟨⟨y0, y1⟩, x0, x1, x2, x3, x4, x5, x6, hbz0, hbz1⟩ := hK.out W7 (h07)
      go_wp2_with fail
      clear y0 y1 x0 x1 x2 x3 x4 x5 x6 hbz0 hbz1
      refine (sCheckAt _ _ _ (hP'.out _ hB7) hx1 hcy'.out).mono ?_
      rintro e W8 ⟨rfl, h8⟩
      have hB8 := hB7.trans (h8.mono hB7.size)
      clear p0 p1 p2 p3 p4 p5 p6 q0 q1 q2 q3 q4 q5 q6
      obtain ⟨p0, p1, p2, p3, p4, p5, p6⟩ := ((hbox2''.out.below h7 hbl2'').below h8 tl2).cells
      obtain ⟨q0, q1, q2, q3, q4, q5, q6⟩ := ((hbox6'.out.below h7 hbl6).below h8 tl6).cells
      have hx1' := hx1.grow h8
      have hx2' := hx2.grow h8
      go_wp2_with fail
      clear p0 p1 p2 p3 p4 p5 p6 q0 q1 q2 q3 q4 q5 q6
      refine (rSameStates _ _ _ _ hx1' hx2').mono ?_
      rintro e W9 ⟨rfl, h9⟩
      go_wp2_with fail
      go_ret
      exact ⟨rfl, hB8.trans (h9.mono hB8.size)⟩
    · obtain ⟨d0, d1, d2, d3, d4, d5, dl⟩ := hD.out _ h02
      have lw2 : w2.heap.size < w2.heap.size + 1 := Nat.lt_succ_self _
      obtain ⟨⟨y0, y1⟩, x0, x1, x2, x3, x4, x5, x6, hbz0, hbz1⟩ := hK.out w2 (h02)
      go_wp2_with fail
      clear y0 y1 x0 x1 x2 x3 x4 x5 x6 hbz0 hbz1
      clear d0 d1 d2 d3 d4 d5 dl
      have hb3 : Below w2.heap.size w2 (w2.alloc (.cells #[.int .i64 7, .int .i64 xa, .int .i64 n, .int .i64 n, .int .i64 xn, .slice Al l.length cl] 34)) := (Below.refl w2.heap.size w2).alloc (Nat.le_refl _) _
      generalize (w2.alloc (.cells #[.int .i64 7, .int .i64 xa, .int .i64 n, .int .i64 n, .int .i64 xn, .slice Al l.length cl] 34)) = W3 at hb3 ⊢
      have h03 := h02.trans (hb3.mono h02.size)
      have hB3 := hb0.trans (h03.mono hb0.size)
      refine (lgDoAt (x := ⟨7, xa, n, n, xn, l⟩) hT'.out _ _ _ _ (hP'.out _ hB3) (hV.out _ hB3) ⟨_, rfl, hLn.out _ hB3⟩).mono ?_
      rintro e W4 ⟨V4, rfl, ho4, hb4⟩
      have hone6 := (ho4).one
      have hnb6 := newBox (W4)
      go_wp2_with (refine wpList_store_state rfl (.tmp 12) (.tmp 63) rfl rfl (World.heap (W4)).size nilSV V4 hnb6 rfl rfl hone6 (fun w6 hbox6 hg6 => ?_); refine Hid.out ?_)
      unfold Hid
      have hbb6 := newBelow hg6
      have hbl6 := hbox6.lt
      clear hone6 hnb6 hg6
      have h36 := hb4.trans (hbb6.mono hb4.size)
      have h26 := hb3.trans (h36.mono hb3.size)
      have h06 := h03.trans (h36.mono h03.size)
      have hB6 := hb0.trans (h06.mono hb0.size)
      have hv6 := Lib.hid ((ho4.below hbb6).view0 hsm.out)
      have hbox6' := Lib.hid hbox6
      have hv2' := Lib.hid (hv2.out.grow h26)
      have hbox2'' := Lib.hid (hbox2'.out.below h26 hbl2)
      have hbl2'' := Nat.lt_of_lt_of_le hbl2 h26.size
      clear hbox6 ho4 hb4 hbb6 h36 h26 h03 hB3 hb3 lw2
      go_wp2_with fail
      refine (logBegun _).mono ?_
      rintro e W7 ⟨rfl, h7⟩
      have h07 := h06.trans (h7.mono h06.size)
      have hB7 := hb0.trans (h07.mono hb0.size)
      obtain ⟨p0, p1, p2, p3, p4, p5, p6⟩ := (hbox2''.out.below h7 hbl2'').cells
      obtain ⟨q0, q1, q2, q3, q4, q5, q6⟩ := (hbox6'.out.below h7 hbl6).cells
      have hx1 := hv2'.out.grow h7
      have hx2 := hv6.out.grow h7
      have tl2 := Nat.lt_of_lt_of_le hbl2'' h7.size
      have tl6 := Nat.lt_of_lt_of_le hbl6 h7.size
      obtain ⟨⟨y0, y1⟩, x0, x1, x2, x3, x4, x5, x6, hbz0, hbz1⟩ := hK.out W7 (h07)
      go_wp2_with fail
      clear y0 y1 x0 x1 x2 x3 x4 x5 x6 hbz0 hbz1
      refine (sCheckAt _ _ _ (hP'.out _ hB7) hx1 hcy'.out).mono ?_
      rintro e W8 ⟨rfl, h8⟩
      have hB8 := hB7.trans (h8.mono hB7.size)
      clear p0 p1 p2 p3 p4 p5 p6 q0 q1 q2 q3 q4 q5 q6
      obtain ⟨p0, p1, p2, p3, p4, p5, p6⟩ := ((hbox2''.out.below h7 hbl2'').below h8 tl2).cells
      obtain ⟨q0, q1, q2, q3, q4, q5, q6⟩ := ((hbox6'.out.below h7 hbl6).below h8 tl6).cells
      have hx1' := hx1.grow h8
      have hx2' := hx2.grow h8
      go_wp2_with fail
      clear p0 p1 p2 p3 p4 p5 p6 q0 q1 q2 q3 q4 q5 q6
      refine (rSameStates _ _ _ _ hx1' hx2').mono ?_
      rintro e W9 ⟨rfl, h9⟩
      go_wp2_with fail
      go_ret
      exact ⟨rfl, hB8.trans (h9.mono hB8.size)⟩
    · obtain ⟨d0, d1, d2, d3, d4, d5, dl⟩ := hD.out _ h02
      have lw2 : w2.heap.size < w2.heap.size + 1 := Nat.lt_succ_self _
      obtain ⟨⟨y0, y1⟩, x0, x1, x2, x3, x4, x5, x6, hbz0, hbz1⟩ := hK.out w2 (h02)
      go_wp2_with fail
      clear y0 y1 x0 x1 x2 x3 x4 x5 x6 hbz0 hbz1
      clear d0 d1 d2 d3 d4 d5 dl
      have hb3 : Below w2.heap.size w2 (w2.alloc (.cells #[.int .i64 8, .int .i64 xa, .int .i64 xb, .int .i64 n, .int .i64 xn, .slice Al l.length cl] 34)) := (Below.refl w2.heap.size w2).alloc (Nat.le_refl _) _
      generalize (w2.alloc (.cells #[.int .i64 8, .int .i64 xa, .int .i64 xb, .int .i64 n, .int .i64 xn, .slice Al l.length cl] 34)) = W3 at hb3 ⊢
      have h03 := h02.trans (hb3.mono h02.size)
      have hB3 := hb0.trans (h03.mono hb0.size)
      refine (lgDoAt (x := ⟨8, xa, xb, n, xn, l⟩) hT'.out _ _ _ _ (hP'.out _ hB3) (hV.out _ hB3) ⟨_, rfl, hLn.out _ hB3⟩).mono ?_
      rintro e W4 ⟨V4, rfl, ho4, hb4⟩
      have hone6 := (ho4).one
      have hnb6 := newBox (W4)
      go_wp2_with (refine wpList_store_state rfl (.tmp 12) (.tmp 63) rfl rfl (World.heap (W4)).size nilSV V4 hnb6 rfl rfl hone6 (fun w6 hbox6 hg6 => ?_); refine Hid.out ?_)
      unfold Hid
      have hbb6 := newBelow hg6
      have hbl6 := hbox6.lt
      clear hone6 hnb6 hg6
      have h36 := hb4.trans (hbb6.mono hb4.size)
      have h26 := hb3.trans (h36.mono hb3.size)
      have h06 := h03.trans (h36.mono h03.size)
      have hB6 := hb0.trans (h06.mono hb0.size)
      have hv6 := Lib.hid ((ho4.below hbb6).view0 hsm.out)
      have hbox6' := Lib.hid hbox6
      have hv2' := Lib.hid (hv2.out.grow h26)
      have hbox2'' := Lib.hid (hbox2'.out.below h26 hbl2)
      have hbl2'' := Nat.lt_of_lt_of_le hbl2 h26.size
      clear hbox6 ho4 hb4 hbb6 h36 h26 h03 hB3 hb3 lw2
      go_wp2_with fail
      refine (logBegun _).mono ?_
      rintro e W7 ⟨rfl, h7⟩
      have h07 := h06.trans (h7.mono h06.size)
      have hB7 := hb0.trans (h07.mono hb0.size)
      obtain ⟨p0, p1, p2, p3, p4, p5, p6⟩ := (hbox2''.out.below h7 hbl2'').cells
      obtain ⟨q0, q1, q2, q3, q4, q5, q6⟩ := (hbox6'.out.below h7 hbl6).cells
      have hx1 := hv2'.out.grow h7
      have hx2 := hv6.out.grow h7
      have tl2 := Nat.lt_of_lt_of_le hbl2'' h7.size
      have tl6 := Nat.lt_of_lt_of_le hbl6 h7.size
      obtain ⟨⟨y0, y1⟩, x0, x1, x2, x3, x4, x5, x6, hbz0, hbz1⟩ := hK.out W7 (h07)
      go_wp2_with fail
      clear y0 y1 x0 x1 x2 x3 x4 x5 x6 hbz0 hbz1
      refine (sCheckAt _ _ _ (hP'.out _ hB7) hx1 hcy'.out).mono ?_
      rintro e W8 ⟨rfl, h8⟩
      have hB8 := hB7.trans (h8.mono hB7.size)
      clear p0 p1 p2 p3 p4 p5 p6 q0 q1 q2 q3 q4 q5 q6
      obtain ⟨p0, p1, p2, p3, p4, p5, p6⟩ := ((hbox2''.out.below h7 hbl2'').below h8 tl2).cells
      obtain ⟨q0, q1, q2, q3, q4, q5, q6⟩ := ((hbox6'.out.below h7 hbl6).below h8 tl6).cells
      have hx1' := hx1.grow h8
      have hx2' := hx2.grow h8
      go_wp2_with fail
      clear p0 p1 p2 p3 p4 p5 p6 q0 q1 q2 q3 q4 q5 q6
      refine (rSameStates _ _ _ _ hx1' hx2').mono ?_
      rintro e W9 ⟨rfl, h9⟩
      go_wp2_with fail
      go_ret
      exact ⟨rfl, hB8.trans (h9.mono hB8.size)⟩
  · have hne : (c != 0) = true := by simpa using hc
    clear hT
    go_wp2_with fail
    refine (logBegun _).mono ?_
    rintro e W3 ⟨rfl, h3⟩
    go_wp2_with fail
    go_ret
    exact ⟨rfl, hB2.trans (h3.mono hB2.size)⟩
end Wh
namespace Wh
open Go Go.RowKit Go.ChangeShapes Go.WideShapes Go.Deep

theorem cell_lt {w : World} {a : Addr} {v : Value} (h : w.cell? a = some v) : a.block < w.heap.size := by
  by_cases hlt : a.block < w.heap.size
  · exact hlt
  · unfold World.cell? at h
    rw [Array.getElem?_eq_none (by omega)] at h
    simp at h

section
variable {H : Type} {en : TypeId × Value → H} {P : Program} {w : World} {base : Nat} {sp : Nat → Bool} {hd : Bool}

/-- Reads, and each of its slices is within the reach. -/
def Rd (en : TypeId × Value → H) (P : Program) (w : World) (base : Nat) (sp : Nat → Bool) (hd : Bool) (t : TypeId) (cs : List Value) : Prop :=
  ∃ (n : Nat) (x : DataW H × List MemPlace), DataW.trod en P w base sp hd n t cs = some x ∧ ∀ k ∈ x.1.weights P t, k ≤ reachBytes

theorem Rd.int {t : TypeId} {cs : List Value} (ht : P.underlying t = some (.int .i64)) (h : Rd en P w base sp hd t cs) : ∃ n, cs = [.int .i64 n] := by
  obtain ⟨n, x, h, _⟩ := h
  obtain ⟨m, hm, _⟩ := DataW.trod_int ht h
  exact ⟨m, hm⟩
theorem Rd.bool {t : TypeId} {cs : List Value} (ht : P.underlying t = some .bool) (h : Rd en P w base sp hd t cs) : ∃ b, cs = [.bool b] := by
  obtain ⟨n, x, h, _⟩ := h
  obtain ⟨m, hm, _⟩ := DataW.trod_bool ht h
  exact ⟨m, hm⟩

theorem Rd.fields {t : TypeId} {fs : Array Field} {cs : List Value} (hs : P.underlying t = some (.struct fs)) (hone : oneCellFields P fs = true) (hC : P.cellsOf t = fs.size) (h : Rd en P w base sp hd t cs) :
    cs.length = fs.size ∧ ∀ (j : Nat) (f : Field), fs[j]? = some f → ∃ v, cs[j]? = some v ∧ Rd en P w base sp hd f.type [v] := by
  obtain ⟨n, x, h, hw⟩ := h
  obtain ⟨xs, m, _, hx, hlen, hxl, hf⟩ := DataW.trod_struct hs h
  rw [hC] at hlen
  refine ⟨hlen, fun j f hj => ?_⟩
  have hjl : j < fs.size := (Array.getElem?_eq_some_iff.1 hj).1
  obtain ⟨ho, hk⟩ := hone_of hone j f hj
  have h1 := hf j f hj
  rw [ho, hk, List.drop_eq_getElem_cons (by omega)] at h1
  have hys : xs[j]? = some (xs[j]'(by omega)) := List.getElem?_eq_getElem (by omega)
  refine ⟨cs[j]'(by omega), List.getElem?_eq_getElem (by omega), m, xs[j]'(by omega), by rw [← hys, ← h1]; rfl, fun k hkm => hw k ?_⟩
  rw [hx]
  simp only [DataW.weights, hs]
  refine DataW.weights_mem_each (j := j) (t := f.type) (d := (xs[j]'(by omega)).1) ?_ ?_ k hkm
  · rw [List.getElem?_map, Array.getElem?_toList, hj]; rfl
  · rw [List.getElem?_map, hys]; rfl

theorem weights_mem_all {e : TypeId} : ∀ {ds : List (DataW H)} {j : Nat} {d : DataW H}, ds[j]? = some d → ∀ n ∈ d.weights P e, n ∈ DataW.weightsAll P e ds
  | d0 :: ds, 0, d, hd, n, hn => by
    simp only [List.getElem?_cons_zero, Option.some.injEq] at hd
    subst hd
    simp only [DataW.weightsAll, List.mem_append]
    exact Or.inl hn
  | d0 :: ds, j + 1, d, hd, n, hn => by
    simp only [List.getElem?_cons_succ] at hd
    simp only [DataW.weightsAll, List.mem_append]
    exact Or.inr (weights_mem_all hd n hn)
  | [], _, _, hd, _, _ => by simp at hd

/-- A slice's elements, each by itself. -/
theorem Rd.slice {t e : TypeId} {k : Nat} {cs : List Value} (ht : P.underlying t = some (.slice e)) (hC : P.cellsOf e = k) (hB : 0 < P.bytesOf e) (h : Rd en P w base sp hd t cs) :
    ∃ (A : Option Addr) (len c : Nat), cs = [.slice A len c] ∧ len ≤ 140737488355232 ∧
      ∀ i, i < len → ∃ cs', cs'.length = k ∧ Rd en P w base sp hd e cs' ∧ ∀ j v, cs'[j]? = some v → okA A ∧ ablk A < w.heap.size ∧ w.cell? ⟨ablk A, aoff A + (i * k + j), none⟩ = some v := by
  obtain ⟨n, x, h, hw⟩ := h
  rcases open_slice ht h with ⟨rfl, _⟩ | ⟨a, len, cap, m, n', D, Pl, rfl, _, hl, _, hm, hx, hi⟩
  · exact ⟨none, 0, 0, rfl, by omega, fun i hi => by omega⟩
  · have hlm : len ≤ m := by rw [hm]; split <;> omega
    have hreach : (len + (m - len)) * P.bytesOf e ≤ reachBytes := hw _ (by rw [hx]; simp [DataW.weights, ht])
    have hspot : 0 < len → 0 < k → a.spot = none := fun h1 h2 => by
      obtain ⟨cs', hc, _⟩ := hi 0 (by omega)
      rw [hC] at hc
      obtain ⟨_, hcl, hat⟩ := World.cells?_some hc
      have hcell := hat 0 h2
      rw [List.getElem?_eq_getElem (by omega), add_add] at hcell
      have := World.cell?_spot hcell
      simpa [Addr.add] using this
    refine ⟨some a, len, cap, rfl, ?_, fun i hi' => ?_⟩
    · have h1 : len * 1 ≤ (len + (m - len)) * P.bytesOf e := Nat.mul_le_mul (by omega) hB
      simp only [reachBytes] at hreach
      omega
    · obtain ⟨cs', hc, ht'⟩ := hi i (by omega)
      rw [hC] at hc
      obtain ⟨_, hcl, hat⟩ := World.cells?_some hc
      refine ⟨cs', hcl, ⟨n', _, ht', fun q hq => hw q ?_⟩, fun j v hj => ?_⟩
      · rw [hx]
        simp only [DataW.weights, ht, List.mem_cons, List.mem_append]
        refine .inr (.inl (weights_mem_all (j := i) (d := D i) ?_ q hq))
        rw [List.getElem?_map, List.getElem?_range hi']; rfl
      · have hjl : j < k := by rw [← hcl]; exact (List.getElem?_eq_some_iff.1 hj).1
        have hcell := hat j hjl
        rw [hj, add_add] at hcell
        obtain ⟨b, off, spot⟩ := a
        obtain rfl : spot = none := hspot (by omega) (by omega)
        rw [Addr.add_lit] at hcell
        exact ⟨okA_some _ _, cell_lt (a := ⟨b, off + (i * k + j), none⟩) hcell, hcell⟩

/-- A slice whose elements are all of the form 'enc x'. -/
theorem Rd.sl {α : Type} {enc : α → List Value} {k : Nat} {t e : TypeId} {cs : List Value} [Inhabited α] (ht : P.underlying t = some (.slice e)) (hC : P.cellsOf e = k) (hB : 0 < P.bytesOf e) (hk : ∀ x, (enc x).length = k) (h0 : 0 < k)
    (hel : ∀ cs', cs'.length = k → Rd en P w base sp hd e cs' → ∃ x : α, cs' = enc x) (h : Rd en P w base sp hd t cs) : ∃ v l, cs = [v] ∧ Sl enc w w.heap.size v l := by
  obtain ⟨A, len, c, rfl, hlen, hi⟩ := h.slice ht hC hB
  obtain ⟨X, hX⟩ := choose_lt (α := α) (n := len) (p := fun i x => ∀ j v, (enc x)[j]? = some v → okA A ∧ ablk A < w.heap.size ∧ w.cell? ⟨ablk A, aoff A + (i * k + j), none⟩ = some v) (fun i hil => by
    obtain ⟨cs', h1, h2, h3⟩ := hi i hil
    obtain ⟨x, rfl⟩ := hel cs' h1 h2
    exact ⟨x, h3⟩)
  refine ⟨_, (List.range len).map X, rfl, A, c, by simp, by simpa using hlen, fun hn => ?_⟩
  have hcell : ∀ j v, (((List.range len).map X).flatMap enc)[j]? = some v → okA A ∧ ablk A < w.heap.size ∧ w.cell? ⟨ablk A, aoff A + j, none⟩ = some v := fun j v hj => by
    have hjl : j < len * k := by
      have := (List.getElem?_eq_some_iff.1 hj).1
      rw [flat_length enc k hk] at this
      simpa using this
    have hq : j / k < len := (Nat.div_lt_iff_lt_mul h0).2 hjl
    have e1 : j / k * k + j % k = j := by rw [Nat.mul_comm]; exact Nat.div_add_mod j k
    have e2 := flat_get enc k hk ((List.range len).map X) (j / k) (j % k) (X (j / k)) (by rw [List.getElem?_map, List.getElem?_range hq]; rfl) (Nat.mod_lt _ h0)
    rw [e1, hj] at e2
    have := hX (j / k) hq (j % k) v e2.symm
    rwa [e1] at this
  have hlp : 0 < (((List.range len).map X).flatMap enc).length := List.length_pos_iff.2 hn
  obtain ⟨h1, h2, _⟩ := hcell 0 _ (List.getElem?_eq_getElem hlp)
  exact ⟨h1, h2, fun j v hj => (hcell j v hj).2.2⟩

/-- A slice of one-cell elements, each with a reading of its own. -/
theorem Rd.cells {α : Type} [Inhabited α] {k : Nat} {t e : TypeId} {cs : List Value} {enc : Value → α → List Value} {Q : Value → α → Prop} (ht : P.underlying t = some (.slice e)) (hC : P.cellsOf e = k) (hB : 0 < P.bytesOf e) (hk : ∀ v x, (enc v x).length = k) (h0 : 0 < k)
    (hel : ∀ cs', cs'.length = k → Rd en P w base sp hd e cs' → ∃ (v : Value) (x : α), cs' = enc v x ∧ Q v x) (h : Rd en P w base sp hd t cs) :
    ∃ (A : Option Addr) (c : Nat) (l : List α) (vs : List Value), cs = [.slice A l.length c] ∧ l.length ≤ 140737488355232 ∧ vs.length = l.length ∧ At w w.heap.size A ((l.zip vs).flatMap fun x => enc x.2 x.1) ∧
      ∀ (i : Nat) (x : α), l[i]? = some x → ∃ u, vs[i]? = some u ∧ Q u x := by
  obtain ⟨A, len, c, rfl, hlen, hi⟩ := h.slice ht hC hB
  obtain ⟨X, hX⟩ := choose_lt (α := α × Value) (n := len) (p := fun i x => Q x.2 x.1 ∧ ∀ j v, (enc x.2 x.1)[j]? = some v → okA A ∧ ablk A < w.heap.size ∧ w.cell? ⟨ablk A, aoff A + (i * k + j), none⟩ = some v) (fun i hil => by
    obtain ⟨cs', h1, h2, h3⟩ := hi i hil
    obtain ⟨v, x, rfl, hq⟩ := hel cs' h1 h2
    exact ⟨(x, v), hq, h3⟩)
  refine ⟨A, c, (List.range len).map (fun i => (X i).1), (List.range len).map (fun i => (X i).2), by simp, by simpa using hlen, by simp, ?_, fun i x hix => ?_⟩
  · have hz : ((List.range len).map (fun i => (X i).1)).zip ((List.range len).map (fun i => (X i).2)) = (List.range len).map X := by
      rw [List.zip_map']
    rw [hz]
    intro hn
    have hcell : ∀ j v, (((List.range len).map X).flatMap fun x => enc x.2 x.1)[j]? = some v → okA A ∧ ablk A < w.heap.size ∧ w.cell? ⟨ablk A, aoff A + j, none⟩ = some v := fun j v hj => by
      have hjl : j < len * k := by
        have := (List.getElem?_eq_some_iff.1 hj).1
        rw [flat_length (fun x : α × Value => enc x.2 x.1) k (fun x => hk _ _)] at this
        simpa using this
      have hq : j / k < len := (Nat.div_lt_iff_lt_mul h0).2 hjl
      have e1 : j / k * k + j % k = j := by rw [Nat.mul_comm]; exact Nat.div_add_mod j k
      have e2 := flat_get (fun x : α × Value => enc x.2 x.1) k (fun x => hk _ _) ((List.range len).map X) (j / k) (j % k) (X (j / k)) (by rw [List.getElem?_map, List.getElem?_range hq]; rfl) (Nat.mod_lt _ h0)
      rw [e1, hj] at e2
      have := (hX (j / k) hq).2 (j % k) v e2.symm
      rwa [e1] at this
    have hlp : 0 < (((List.range len).map X).flatMap fun x => enc x.2 x.1).length := List.length_pos_iff.2 hn
    obtain ⟨h1, h2, _⟩ := hcell 0 _ (List.getElem?_eq_getElem hlp)
    exact ⟨h1, h2, fun j v hj => (hcell j v hj).2.2⟩
  · rw [List.getElem?_map] at hix
    obtain ⟨i', hi', rfl⟩ := Option.map_eq_some_iff.1 hix
    have hil : i < len := by
      have := (List.getElem?_eq_some_iff.1 hi').1
      simpa using this
    rw [List.getElem?_range hil] at hi'
    obtain rfl := Option.some.inj hi'
    exact ⟨(X i).2, by rw [List.getElem?_map, List.getElem?_range hil]; rfl, (hX i hil).1⟩

end
end Wh
