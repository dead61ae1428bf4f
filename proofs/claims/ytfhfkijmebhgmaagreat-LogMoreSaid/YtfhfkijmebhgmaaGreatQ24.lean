/- Texts of the claim, joined: FillA, RegIn, FillP, FillQ, FillR, FillC. -/
import Derived.Sort.QuietThIn
import Derived.OwnWalkIn
import Derived.RangeFuncCalls
import Derived.BigQuiet
import Derived.Test.YtfhfkijmebhgmaaGreatQ22
import Derived.Test.YtfhfkijmebhgmaaGreatQ23
import Derived.Test.YtfhfkijmebhgmaaGreatQ08
import Derived.Test.YtfhfkijmebhgmaaGreatQ07
import Derived.Test.YtfhfkijmebhgmaaGreatQ18
import Derived.Test.YtfhfkijmebhgmaaGreatQ13
namespace Wh
open Go Go.RowKit Go.Shelf Go.Proofs
attribute [local go_sem] run_indexAt_letter evL_tmp evL_const evL_func

def mv2 (s : State) (a d g : Nat) (n : Int) : State := { pk1 s a g n with on := setCell (pk1 s a g n).on d g (cell (pk1 s a g n).on d g + n) }
theorem moved_mv {s : State} {i a d g : Nat} {m n : Int} (h : moveAt s.moves i = ⟨g, a, d, m⟩) : ({ mv2 s a d g n with moves := s.moves.eraseIdx i } : State) = movedS s i n := by
  unfold movedS
  rw [h]
  rfl

set_option maxHeartbeats 8000000 in
set_option maxRecDepth 100000 in
theorem flMoved (w : World) (v vs : Value) (p : Plan) (s : State) (k n : Int) (hp : PlanV w w.heap.size v p) (hv : StateV w w.heap.size vs s) :
    Calls Tryz.prog 50 #[v, vs, .int .i64 k, .int .i64 n] w (ActPost (moved p s k n) w) := by
  obtain ⟨Ab, cb, As, cs, rfl, hP', hBn, hSz, hlb, hls⟩ := openPl hp
  obtain ⟨A0, c0, A1, c1, A2, c2, A3, c3, A4, c4, A5, c5, A6, c6, rfl, hV, hN, hO, hH, hM, hI, hU, hX, hl0, hl1, hl2, hl3, hl4, hl5, hl6⟩ := openOne hv
  go_enter Tryz.func50, Tryz.ntmps50
  go_wp2_with fail
  obtain ⟨W0, hW0, hb0, hsz0, hsz1, hsE, hK, hR⟩ := boxesAct w p s Ab cb As cs A0 c0 A1 c1 A2 c2 A3 c3 A4 c4 A5 c5 A6 c6
  rw [hW0]
  clear hW0
  obtain ⟨⟨y0, y1⟩, x0, x1, x2, x3, x4, x5, x6, hbz0, hbz1⟩ := hK.out W0 (Below.refl W0.heap.size W0)
  go_wp2_with fail
  clear y0 y1 x0 x1 x2 x3 x4 x5 x6 hbz0 hbz1
  refine (sCheck _ _ _ p s (hP'.out _ hb0) (hV.out _ hb0)).mono ?_
  rintro e W1 ⟨rfl, h1⟩
  have hB1 := hb0.trans (h1.mono hb0.size)
  obtain ⟨⟨y0, y1⟩, x0, x1, x2, x3, x4, x5, x6, hbz0, hbz1⟩ := hK.out W1 (h1)
  by_cases hc : checkState p s = 0
  · have hc' := Lib.hid hc
    have hsn := Lib.hid (checkState_zero.1 hc).1
    rw [hc]
    clear hc
    by_cases g1 : k < 0
    · have hfin := Lib.hid (moved_none (n := n) hc'.out (.inl g1))
      have hbx9 := hR.out _ h1
      go_wp2_with (refine wpList_store_state rfl (.tmp 8) (.tmp 29) rfl rfl (w.heap.size + 1 + 1) nilSV nilSV hbx9 rfl rfl rfl (fun w9 hbox9 hg9 => ?_))
      obtain ⟨p0, p1, p2, p3, p4, p5, p6⟩ := BoxAt.cells hbox9
      have hfin9 : Below w.heap.size w w9 := Below.grown hB1 hg9 (Below.size hB1) (fun k hk => by injection hk with hk; omega)
      go_wp2_with fail
      exact bodyPost_ret (v := .tuple #[nilSV.val, .int .i64 4]) (by simp [results, Tryz.results50, go_sem, SV.val, p0, p1, p2, p3, p4, p5, p6]) rfl (actErr hfin.out hfin9)
    by_cases g2 : (s.moves.length : Int) ≤ k
    · have hfin := Lib.hid (moved_none (n := n) hc'.out (.inr g2))
      have hbx9 := hR.out _ h1
      go_wp2_with (refine wpList_store_state rfl (.tmp 8) (.tmp 29) rfl rfl (w.heap.size + 1 + 1) nilSV nilSV hbx9 rfl rfl rfl (fun w9 hbox9 hg9 => ?_))
      obtain ⟨p0, p1, p2, p3, p4, p5, p6⟩ := BoxAt.cells hbox9
      have hfin9 : Below w.heap.size w w9 := Below.grown hB1 hg9 (Below.size hB1) (fun k hk => by injection hk with hk; omega)
      go_wp2_with fail
      exact bodyPost_ret (v := .tuple #[nilSV.val, .int .i64 4]) (by simp [results, Tryz.results50, go_sem, SV.val, p0, p1, p2, p3, p4, p5, p6]) rfl (actErr hfin.out hfin9)
    obtain ⟨i, rfl⟩ : ∃ i : Nat, k = i := ⟨k.toNat, by omega⟩
    have hk : i < s.moves.length := by omega
    have hki : (i : Int) < (s.moves.length : Int) := by omega
    have h8 := hsn.out.moves8
    obtain ⟨gd, sr, ds, mn, hxm⟩ : ∃ gd sr ds mn, moveAt s.moves i = ⟨gd, sr, ds, mn⟩ := ⟨_, _, _, _, rfl⟩
    have hmv := hsn.out.moveAt hk
    rw [hxm] at hmv
    simp only at hmv
    obtain ⟨g, rfl⟩ : ∃ g : Nat, gd = g := ⟨gd.toNat, by omega⟩
    obtain ⟨a, rfl⟩ : ∃ a : Nat, sr = a := ⟨sr.toNat, by omega⟩
    obtain ⟨d, rfl⟩ : ∃ d : Nat, ds = d := ⟨ds.toNat, by omega⟩
    have hgp : g < p.sizes.length := by omega
    have hap : a < p.bins.length := by omega
    have hdp : d < p.bins.length := by omega
    have had : a ≠ d := by omega
    have hao : a < s.on.length := by rw [hsn.out.onLen]; exact hap
    have hdo : d < s.on.length := by rw [hsn.out.onLen]; exact hdp
    have hga : g < (rowAt s.on a).length := by rw [hsn.out.rowLen hap]; exact hgp
    have hgd : g < (rowAt s.on d).length := by rw [hsn.out.rowLen hdp]; exact hgp
    have hai : (a : Int) < (s.on.length : Int) := by omega
    have hdi : (d : Int) < (s.on.length : Int) := by omega
    have hgai : (g : Int) < ((rowAt s.on a).length : Int) := by omega
    have hgdi : (g : Int) < ((rowAt s.on d).length : Int) := by omega
    have hca := hsn.out.cell hap hgp
    have hcd := hsn.out.cell hdp hgp
    have hxm' := Lib.hid hxm
    obtain ⟨okm, lm, e0, e1, e2, e3⟩ := (hM.out W1 hB1).at_.move hk
    rw [hxm] at e0 e1 e2 e3
    simp only at e0 e1 e2 e3
    have h1a := h1.alloc h1.size (.cells #[.int .i64 g, .int .i64 a, .int .i64 d, .int .i64 mn] 48)
    have hB1a := hB1.alloc hB1.size (.cells #[.int .i64 g, .int .i64 a, .int .i64 d, .int .i64 mn] 48)
    clear hxm
    by_cases g3 : n < 0
    · have hfin := Lib.hid (moved_range (n := n) hc'.out hk (.inl g3))
      have hbx9 := hR.out _ h1a
      go_wp2_with (refine wpList_store_state rfl (.tmp 8) (.tmp 43) rfl rfl (w.heap.size + 1 + 1) nilSV nilSV hbx9 rfl rfl rfl (fun w9 hbox9 hg9 => ?_))
      obtain ⟨p0, p1, p2, p3, p4, p5, p6⟩ := BoxAt.cells hbox9
      have hfin9 : Below w.heap.size w w9 := Below.grown hB1a hg9 (Below.size hB1a) (fun k hk => by injection hk with hk; omega)
      go_wp2_with fail
      exact bodyPost_ret (v := .tuple #[nilSV.val, .int .i64 3]) (by simp [results, Tryz.results50, go_sem, SV.val, p0, p1, p2, p3, p4, p5, p6]) rfl (actErr hfin.out hfin9)
    by_cases g4 : mn < n
    · have hfin := Lib.hid (moved_range (n := n) hc'.out hk (.inr (by rw [hxm'.out]; exact g4)))
      have hbx9 := hR.out _ h1a
      go_wp2_with (refine wpList_store_state rfl (.tmp 8) (.tmp 43) rfl rfl (w.heap.size + 1 + 1) nilSV nilSV hbx9 rfl rfl rfl (fun w9 hbox9 hg9 => ?_))
      obtain ⟨p0, p1, p2, p3, p4, p5, p6⟩ := BoxAt.cells hbox9
      have hfin9 : Below w.heap.size w w9 := Below.grown hB1a hg9 (Below.size hB1a) (fun k hk => by injection hk with hk; omega)
      go_wp2_with fail
      exact bodyPost_ret (v := .tuple #[nilSV.val, .int .i64 3]) (by simp [results, Tryz.results50, go_sem, SV.val, p0, p1, p2, p3, p4, p5, p6]) rfl (actErr hfin.out hfin9)
    have hbl1 := Lib.hid (Blk.new W1 48 #[.int .i64 g, .int .i64 a, .int .i64 d, .int .i64 mn])
    obtain ⟨Ar, cr, or0, lr0, rr0, hrow⟩ := (hN.out W1 hB1).row hdo
    obtain ⟨or1, lr1, rr1⟩ := hrow.at_.int hgd
    change W1.cell? _ = some (.int .i64 (cell s.on d g)) at rr1
    have hw0 : IntKind.i64.wrap (cell s.on d g + n) = cell s.on d g + n := IntWalk.i64_in _ (by omega)
    by_cases hm : 200 < cell s.on d g + n
    · have hfin := Lib.hid (moved_many (n := n) hc'.out hk (by rw [hxm'.out]; exact ⟨by omega, by simp only; omega⟩) (by rw [hxm'.out]; simp only [Int.toNat_natCast]; exact hm))
      go_wp2_with fail
      go_quiet (fail)
      have h0d := below_drewN h1a nq
      have hBd := below_drewN hB1a nq
      clear y0 y1 x0 x1 x2 x3 x4 x5 x6 hbz0 hbz1
      clear e0 e1 e2 e3 okm lm or0 lr0 rr0 hrow or1 lr1 rr1 hbl1 h1a hB1a
      generalize (W1.alloc (.cells #[.int .i64 g, .int .i64 a, .int .i64 d, .int .i64 mn] 48)).drewN nq = W4 at h0d hBd ⊢
      have hbx9 := hR.out _ h0d
      go_wp2_with (refine wpList_store_state rfl (.tmp 8) (.tmp 57) rfl rfl (w.heap.size + 1 + 1) nilSV nilSV hbx9 rfl rfl rfl (fun w9 hbox9 hg9 => ?_))
      obtain ⟨p0, p1, p2, p3, p4, p5, p6⟩ := BoxAt.cells hbox9
      have hfin9 : Below w.heap.size w w9 := Below.grown hBd hg9 (Below.size hBd) (fun k hk => by injection hk with hk; omega)
      go_wp2_with fail
      exact bodyPost_ret (v := .tuple #[nilSV.val, .int .i64 2]) (by simp [results, Tryz.results50, go_sem, SV.val, p0, p1, p2, p3, p4, p5, p6]) rfl (actErr hfin.out hfin9)
    have hmd := decide_eq_false hm
    have hfin := Lib.hid (moved_ok (n := n) hc'.out ⟨hk, by omega, by rw [hxm'.out]; simp only; omega, by rw [hxm'.out]; simp only [Int.toNat_natCast]; omega⟩)
    go_wp2_with fail
    go_quiet (fail)
    have h0d := below_drewN h1a nq
    have hBd := below_drewN hB1a nq
    have hbl4 := Lib.hid (hbl1.out.below (below_drewN (Below.refl _ _) nq) hbl1.out.lt)
    clear y0 y1 x0 x1 x2 x3 x4 x5 x6 hbz0 hbz1
    clear e0 e1 e2 e3 okm lm or0 lr0 rr0 hrow or1 lr1 rr1 hbl1 h1a hB1a hw0 hmd
    generalize W1.heap.size = wl at hbl4 ⊢
    generalize (W1.alloc (.cells #[.int .i64 g, .int .i64 a, .int .i64 d, .int .i64 mn] 48)).drewN nq = W4 at h0d hBd hbl4 ⊢
    obtain ⟨⟨y0, y1⟩, x0, x1, x2, x3, x4, x5, x6, hbz0, hbz1⟩ := hK.out W4 (h0d)
    go_wp2_with fail
    clear y0 y1 x0 x1 x2 x3 x4 x5 x6 hbz0 hbz1
    refine (sOwn _ _ p s (hV.out _ hBd) hsn.out).mono ?_
    rintro e W5 ⟨_, rfl, ⟨V5, rfl, ho5⟩, h5⟩
    have hone6 := (ho5).one
    have hnb6 := newBox (W5)
    go_wp2_with (refine wpList_store_state rfl (.tmp 12) (.tmp 59) rfl rfl (World.heap (W5)).size nilSV V5 hnb6 rfl rfl hone6 (fun w6 hbox6 hg6 => ?_); refine Hid.out ?_)
    unfold Hid
    have hbb6 := newBelow hg6
    have hbl6 := hbox6.lt
    clear hone6 hnb6 hg6
    have h56 := h5.trans (hbb6.mono h5.size)
    have hx6 := Lib.hid (Bx.of hbox6 (ho5.below hbb6))
    have h06 := h0d.trans (h56.mono h0d.size)
    have hbl6 := Lib.hid (hbl4.out.below h56 hbl4.out.lt)
    have hlw : wl < W4.heap.size := hbl4.out.lt
    have hle : w.heap.size ≤ W4.heap.size := hBd.size
    have hle0 : W0.heap.size ≤ W4.heap.size := h0d.size
    have hle5 : W4.heap.size ≤ W5.heap.size := h5.size
    clear hbox6 ho5 hbb6 h5 hbl4 h0d hBd h56
    have hlw6 : wl < w6.heap.size := hbl6.out.lt
    generalize W4.heap.size = base at hx6 hle hle0 hle5 hlw
    generalize W5.heap.size = bx at hx6 hle5 ⊢
    have hble : base ≤ bx := hle5
    have hcd1 : cell (pk1 s a g n).on d g = cell s.on d g := by
      show cell (setCell s.on a g _) d g = _
      rw [cell_setCell hao hga, if_neg (by omega)]
    have hw1 : IntKind.i64.wrap (cell s.on a g - n) = cell s.on a g - n := IntWalk.i64_in _ (by omega)
    have hw2 : IntKind.i64.wrap (cell s.on d g + n) = cell s.on d g + n := IntWalk.i64_in _ (by omega)
    obtain ⟨gon, con, cur0, gr, cr, cur, eon, hgon, hbn0, r0, er, hgrb, hbr, rc⟩ := hx6.out.own.onAt hao hga
    have c0 := hx6.out.cells.1
    rw [eon] at c0
    have er' := Lib.hid er
    clear eon er hbn0 hbr
    have m0 := hbl6.out.cell (j := 0) rfl
    have m1 := hbl6.out.cell (j := 1) rfl
    go_wp2_with fail
    go_still_tail 13, (by kernel_rfl)
    change wpList _ _ _ _ _ w6.drew
    refine wp_st_on rfl (.tmp 72) (.tmp 71) rfl rfl (i := a) (g := g) (q := cell s.on a g - n) hx6.out.drew hao hga er'.out rfl rfl (fun w7 hx7 hst7 => ?_)
    refine wpList_nil ?_
    have h07 := h06.drew.trans (hst7.below (B := W0.heap.size) (fun q hq => by omega) h06.drew.size)
    have hx7' := Lib.hid (show Bx w7 base bx 31 [] V5 (pk1 s a g n) from hx7)
    have hbl7 := Lib.hid (hst7.blk (show Blk w6.drew wl 48 _ from hbl6.out) (by omega))
    clear hx7 hst7 c0 r0 rc m0 m1 hw1 hx6 h06 er' hbl6
    have hdo1 : d < (pk1 s a g n).on.length := by show d < (setCell _ _ _ _).length; rw [length_setCell]; exact hdo
    have hgd1 : g < (rowAt (pk1 s a g n).on d).length := by show g < (rowAt (setCell _ _ _ _) d).length; rw [rowlen_setCell]; exact hgd
    obtain ⟨gon, con, cur0, gr, cr, cur, eon, hgon, hbn0, r0, er, hgrb, hbr, rc⟩ := hx7'.out.own.onAt hdo1 hgd1
    rw [hcd1] at rc
    have c0 := hx7'.out.cells.1
    rw [eon] at c0
    have hl1 : (pk1 s a g n).on.length = s.on.length := length_setCell
    have hl2 : (rowAt (pk1 s a g n).on d).length = (rowAt s.on d).length := rowlen_setCell
    rw [hl1] at c0
    rw [hl2] at r0
    have er' := Lib.hid er
    clear eon er hbn0 hbr hl1 hl2
    have m0 := hbl7.out.cell (j := 0) rfl
    have m2 := hbl7.out.cell (j := 2) rfl
    go_wp2_with fail
    go_still_tail 13, (by kernel_rfl)
    change wpList _ _ _ _ _ w7.drew
    refine wp_st_on rfl (.tmp 85) (.tmp 84) rfl rfl (i := d) (g := g) (q := cell s.on d g + n) hx7'.out.drew hdo1 hgd1 er'.out rfl rfl (fun w8 hx8 hst8 => ?_)
    refine wpList_nil ?_
    have h08 := h07.drew.trans (hst8.below (B := W0.heap.size) (fun q hq => by omega) h07.drew.size)
    have hx8' := Lib.hid (show Bx w8 base bx 31 [] V5 (mv2 s a d g n) by unfold mv2; rw [hcd1]; exact hx8)
    clear hx8 hst8 c0 r0 rc m0 m2 hw2 hx7' h07 er' hbl7 hdo1 hgd1
    have hmo := Lib.hid hx8'.out.own.moves
    have c3 := hx8'.out.cells.2.2.2.1
    go_wp2_with fail
    clear c3
    refine (delMove _ base _ s.moves i hmo.out hk (by omega)).mono ?_
    rintro e w9 ⟨u, rfl, hu, hg9, hub⟩
    obtain ⟨A9, c9, rfl⟩ := hu.isSlice
    have hO9 := hx8'.out.own.wroteMoves hg9 hu
    have hbrow : some bx ≠ V5.moves.ownBlock := fun he => by
      rcases hx8'.out.own.moves.notBox hx8'.out.boxAt.blk (by decide) with h | h
      · rw [h] at he; cases he
      · exact h he.symm
    have hb9 := hx8'.out.boxAt.grown hg9 hbrow
    have h09 := h08.grown hg9 h08.size (fun r hr => by have := (hmo.out.size r hr).1; omega)
    have hb9' := Lib.hid hb9
    have hO9' := Lib.hid hO9
    clear hu hg9 hub hO9 hb9 hmo hx8' h08 hbrow
    go_wp2_with (refine wp_st_moves' rfl (.tmp 92) (.tmp 91) rfl rfl A9 (s.moves.eraseIdx i).length c9 (V := V5) (cs := []) (b := bx) (by rw [List.append_nil]; exact hb9'.out.blk) hO9'.out boxT rfl rfl rfl (fun w10 hx10 hst10 => ?_); refine Hid.out ?_)
    unfold Hid
    have hx10' := Lib.hid (show Bx w10 base bx 31 [] { V5 with moves := .slice A9 (s.moves.eraseIdx i).length c9 } (movedS s i n) by rw [← moved_mv hxm'.out]; exact hx10)
    have h010 := h09.trans (hst10.below (B := W0.heap.size) (fun q hq => by omega) h09.size)
    have hB10 := hb0.trans (h010.mono hb0.size)
    clear hx10 hst10 hb9' hO9' h09
    generalize ({ V5 with moves := .slice A9 (s.moves.eraseIdx i).length c9 } : SV) = V9 at hx10'
    have hbx9 := hR.out _ h010
    obtain ⟨b0, b1, b2, b3, b4, b5, b6⟩ := BoxAt.cells hx10'.out.boxAt
    have hone9 := OwnSt.one hx10'.out.own
    go_wp2_with (refine wpList_store_state rfl (.tmp 8) (.tmp 93) rfl rfl (w.heap.size + 1 + 1) nilSV V9 hbx9 rfl rfl hone9 (fun w9 hbox9 hg9 => ?_))
    have hO9 := OwnSt.keptBy hx10'.out.own hg9 hbx9 (by decide) (by decide) (by decide) (by decide) (by decide) (by decide)
    obtain ⟨p0, p1, p2, p3, p4, p5, p6⟩ := BoxAt.cells hbox9
    have hfin9 : Below w.heap.size w w9 := Below.grown hB10 hg9 (Below.size hB10) (fun k hk => by injection hk with hk; omega)
    clear b0 b1 b2 b3 b4 b5 b6
    go_wp2_with fail
    exact bodyPost_ret (v := .tuple #[SV.val V9, .int .i64 0]) (by simp [results, Tryz.results50, go_sem, SV.val, p0, p1, p2, p3, p4, p5, p6]) rfl (actOk hfin.out (hO9.from_ hle) hfin9)
  · have hne : (checkState p s != 0) = true := by simpa using hc
    have hfin := Lib.hid (moved_bad (k := k) (n := n) hc)
    clear hc
    have hbx9 := hR.out _ h1
    go_wp2_with (refine wpList_store_state rfl (.tmp 8) (.tmp 18) rfl rfl (w.heap.size + 1 + 1) nilSV nilSV hbx9 rfl rfl rfl (fun w9 hbox9 hg9 => ?_))
    obtain ⟨p0, p1, p2, p3, p4, p5, p6⟩ := BoxAt.cells hbox9
    have hfin9 : Below w.heap.size w w9 := Below.grown hB1 hg9 (Below.size hB1) (fun k hk => by injection hk with hk; omega)
    go_wp2_with fail
    exact bodyPost_ret (v := .tuple #[nilSV.val, .int .i64 (checkState p s)]) (by simp [results, Tryz.results50, go_sem, SV.val, p0, p1, p2, p3, p4, p5, p6]) rfl (actErr hfin.out hfin9)
end Wh
namespace Wh
open Go Go.RowKit Go.Shelf Go.Proofs

section
variable {P : Program} {ops : Array Oper} {md : Region.Mode} {C : World → Prop} {l₀ n : Nat}
def noDefer (ops : Array Oper) : Bool := ops.all fun o => match o.op with | .defer _ => false | _ => true
theorem noDefer_at {ops : Array Oper} (h : noDefer ops = true) {i : Nat} {o : Oper} (hi : ops[i]? = some o) (c : Call) : o.op ≠ .defer c := fun e => by
  unfold noDefer at h
  rw [Array.all_eq_true] at h
  obtain ⟨hl, rfl⟩ := Array.getElem?_eq_some_iff.1 hi
  have := h i hl
  rw [e] at this
  cases this
theorem wpIn_of_quietR {o : Oper} {a : Act} {K : Act → Prop} {K' : Act → World → Prop} {Q' : Exit → Act → World → Prop} {w : World} (hnd : ∀ c, o.op ≠ .defer c) (hw : C w) (h : ∀ a w', C w' → K a → K' a w')
    (hh : o.quiet P a C K) : o.wpIn (Fence.wide.inRound l₀) n P a w K' Q' := by
  obtain ⟨v, h1, h2⟩ := hh
  have h3 := h1 w hw
  unfold Oper.quietAt at h3
  unfold Oper.wpIn
  refine ⟨fun _ _ => trivial, ?_⟩
  rw [Oper.semAt_plain _ _ _ hnd]
  generalize (execOp a.eval o).run P w = r at *
  cases r with
  | ok x w' =>
    cases x <;> simp only [Oper.quietUpon] at h3 <;> simp only [Oper.uponIn]
    case value u =>
      obtain ⟨e1, e2⟩ := h3
      rw [e1, e2]
      exact h _ _ hw h2
    case skip =>
      obtain ⟨e1, e2⟩ := h3
      rw [e1, ← e2]
      exact h _ _ hw h2
    case enter f args =>
      obtain ⟨e1, hc⟩ := h3
      rw [e1]
      exact ⟨fun hd => (by cases hd), CallsIn.inRound l₀ (callsIn_wide.2 (hc.mono fun e w'' hh => by
        obtain ⟨he, hw''⟩ := hh
        subst he
        exact h _ _ hw'' h2))⟩
  | halt x w' => simp only [Oper.quietUpon] at h3
theorem wpOpIn_of_qOpR {i : Nat} {a : Act} {K : Act → Prop} {K' : Act → World → Prop} {Q' : Exit → Act → World → Prop} {w : World} (hnd : noDefer ops = true) (hC : C w) (h : ∀ a w', C w' → K a → K' a w')
    (hh : qOp P ops C i K a) : wpOpIn (Fence.wide.inRound l₀) n P ops Q' i K' a w := by
  unfold qOp at hh
  unfold wpOpIn
  split
  · rename_i ho; simp only [ho] at hh; exact h _ _ hC hh
  · rename_i o ho
    simp only [ho] at hh
    split
    · rename_i hw; simp only [hw, if_true] at hh; exact wpIn_of_quietR (noDefer_at hnd ho) hC h hh
    · rename_i hw; simp only [hw] at hh; exact ⟨fun _ _ => trivial, h _ _ hC hh⟩
theorem wpAnyIn_of_quietR {Q : Act → Prop} {Q' : Exit → Act → World → Prop} (hnd : noDefer ops = true) (hQ : ∀ a w, C w → Q a → Q' .normal a w) : ∀ (fuel : Nat) (listed : Array Bool) (a : Act) (w : World), C w →
    wpAnyQ P md ops C Q fuel listed a → wpAnyIn (Fence.wide.inRound l₀) n P md ops Q' fuel listed a w
  | 0, _, _, _, hw, h => ⟨h.1, hQ _ _ hw h.2⟩
  | fuel + 1, _, _, _, hw, h => ⟨fun h0 => hQ _ _ hw (h.1 h0), fun i hi => wpOpIn_of_qOpR hnd hw (fun a' w' hw' => wpAnyIn_of_quietR hnd hQ fuel _ a' w' hw') (h.2 i hi)⟩
theorem wpIn_region_quietR {id : Nat} {Q : Exit → Act → World → Prop} {a : Act} {w : World} (hnd : noDefer ops = true) (hm : P.follows .mixedOrders = true) (hB : Region.lexB .any ops = true) (hC : C { w with drawn := w.drawn + 1 })
    (h : wpQuiet P ops C (fun a' => ∀ w', C w' → Q .normal a' w') ops.toList a) : (Code.region id ops true).wpIn (Fence.wide.inRound l₀) n P Q a w := by
  simp only [Region.lexB, Bool.and_eq_true] at hB
  refine wpIn_region_any hm (wpAnyIn_of_quietR (Q := fun a' => ∀ w', C w' → Q .normal a' w') hnd (fun _ w' hw' h => h w' hw') _ _ _ _ hC ?_)
  have := wpAnyQ_lex (C := C) (md := .any) hB.1 ops.toList 0 (Array.replicate ops.size false) a (by simp) (by simpa using hB.2) h
  simpa using this
theorem wpIn_region_wld {id : Nat} {Q : Exit → Act → World → Prop} {a : Act} {w : World} {l : List Oper} (hnd : noDefer l.toArray = true) (hm : P.follows .mixedOrders = true) (hB : Region.lexB .any l.toArray = true)
    (h : wpQuiet P l.toArray (fun w' => ∃ p : GB, w' = wld w p.d p.os) (fun a' => ∀ w', (∃ p : GB, w' = wld w p.d p.os) → Q .normal a' w') l a) : (Code.region id l.toArray true).wpIn (Fence.wide.inRound l₀) n P Q a w :=
  wpIn_region_quietR (C := fun w' => ∃ p : GB, w' = wld w p.d p.os) hnd hm hB ⟨⟨w.drawn + 1, #[]⟩, by simp [wld]⟩ (by simpa using h)
end

/-- The moves' slice stored into the state's box, in a round. -/
theorem wpIn_st_moves {ops : Array Oper} {rest : List Oper} {o : Oper} {a : Act} {w : World} {Q : Exit → Act → World → Prop} {base b l₀ n0 : Nat} {t : TypeId} {cs : List Value} {V : SV}
    (hgd : o.guard = none) (x y : Operand) (ho : o.op = .store 29 x y) (hn : o.dst = none) (A : Option Addr) (n c : Nat) {V' : SV} {s' : State} (hk : Blk w b t (V.cells ++ cs)) (hO : OwnSt w base V' s') (hT : BoxT t) (hV : V'.cells ++ cs = (V.cells ++ cs).set 3 (.slice A n c))
    (hx : a.eval x = .pointer (some ⟨b, 3, none⟩)) (hy : a.eval y = .slice A n c) (h : ∀ w', Bx w' base b t cs V' s' → Step (· = b) w w' → wpListIn (Fence.wide.inRound l₀) n0 Tryz.prog ops Q rest a w') : wpListIn (Fence.wide.inRound l₀) n0 Tryz.prog ops Q (o :: rest) a w :=
  wpListIn_plain hgd fun K hK => by
    obtain ⟨h1, h2⟩ := Bx.set' hk hO hT 3 (.slice A n c) hV
    have h3 := h _ h1 (.of_grown h2 fun k hk => by injection hk with hk; exact hk.symm)
    have hc : w.cell? ⟨b, 3, none⟩ = some V.moves := hk.cell rfl
    have hf := hk.frozen 3
    clear h hk hO h1 h2 hV
    unfold Oper.wpIn
    refine ⟨fun _ _ => trivial, ?_⟩
    rw [Oper.semAt_plain _ _ _ (fun c => by rw [ho]; intro e; cases e)]
    simp only [execOp, ho, hx, hy]
    go_simp
    rw [hn] at *
    exact hK _ _ h3
end Wh
namespace Wh

section
variable {p : Plan} {s : State}
theorem fill1_full {t : State} {b g f : Nat} (h : 8 ≤ t.moves.length) : fill1 p t b g f = t := by unfold fill1; rw [if_pos h]
theorem fill1_some {t : State} {b g f : Nat} (h : ¬ 8 ≤ t.moves.length) (h2 : 0 < fillN p t b g f) : fill1 p t b g f = addMove t ⟨g, f, b, fillN p t b g f⟩ := by unfold fill1; rw [if_neg h, if_pos h2]; rfl
theorem fill1_none {t : State} {b g f : Nat} (h : ¬ 8 ≤ t.moves.length) (h2 : ¬ 0 < fillN p t b g f) : fill1 p t b g f = t := by unfold fill1; rw [if_neg h, if_neg h2]
end
end Wh
namespace Wh
open Go Go.RowKit Go.Shelf Go.Proofs
attribute [local go_sem] run_indexAt_letter
attribute [local go_sem] Oper.semAt_some

/-- A bin of one kind. -/
abbrev BinK (p : Plan) (f : Bool) : Type := { x : Nat // x < p.bins.length ∧ (binAt p.bins x).front = f }
def kindsX (p : Plan) (f : Bool) : Nat → List (BinK p f)
  | 0 => []
  | k + 1 => if h : k < p.bins.length ∧ (binAt p.bins k).front = f then kindsX p f k ++ [(⟨k, h⟩ : BinK p f)] else kindsX p f k
theorem kindsX_yes {p : Plan} {f : Bool} {k : Nat} (h1 : k < p.bins.length) (h2 : (binAt p.bins k).front = f) : kindsX p f (k + 1) = kindsX p f k ++ [⟨k, h1, h2⟩] := by
  show (if h : k < p.bins.length ∧ (binAt p.bins k).front = f then kindsX p f k ++ [(⟨k, h⟩ : BinK p f)] else kindsX p f k) = _
  rw [dif_pos ⟨h1, h2⟩]
theorem kindsX_no {p : Plan} {f : Bool} {k : Nat} (h : (binAt p.bins k).front ≠ f) : kindsX p f (k + 1) = kindsX p f k := by
  show (if h : k < p.bins.length ∧ (binAt p.bins k).front = f then kindsX p f k ++ [(⟨k, h⟩ : BinK p f)] else kindsX p f k) = _
  rw [dif_neg (fun hh => h hh.2)]
theorem kindsX_val (p : Plan) (f : Bool) : ∀ k, k ≤ p.bins.length → (kindsX p f k).map Subtype.val = kindsTo p f k
  | 0, _ => rfl
  | k + 1, hk => by
    have ih := kindsX_val p f k (by omega)
    by_cases hf : (binAt p.bins k).front = f
    · rw [kindsX_yes (by omega) hf, kindsTo_yes hf, List.map_append, ih]
      rfl
    · rw [kindsX_no hf, kindsTo_no hf, ih]
theorem kindsX_length (p : Plan) (f : Bool) : ∀ k, (kindsX p f k).length ≤ k
  | 0 => Nat.le_refl _
  | k + 1 => by
    have ih := kindsX_length p f k
    show (if h : k < p.bins.length ∧ (binAt p.bins k).front = f then kindsX p f k ++ [(⟨k, h⟩ : BinK p f)] else kindsX p f k).length ≤ k + 1
    split
    · rw [List.length_append, List.length_singleton]; omega
    · omega
theorem kindsX_pre (p : Plan) (f : Bool) : ∀ n k, k ≤ n → ∃ r, kindsX p f n = kindsX p f k ++ r
  | 0, k, h => by
    obtain rfl : k = 0 := by omega
    exact ⟨[], rfl⟩
  | n + 1, k, h => by
    by_cases he : k = n + 1
    · exact ⟨[], by rw [he, List.append_nil]⟩
    · obtain ⟨r, hr⟩ := kindsX_pre p f n k (by omega)
      by_cases hh : n < p.bins.length ∧ (binAt p.bins n).front = f
      · exact ⟨r ++ [⟨n, hh⟩], by rw [kindsX_yes hh.1 hh.2, hr, List.append_assoc]⟩
      · refine ⟨r, ?_⟩
        rw [← hr]
        show (if h : n < p.bins.length ∧ (binAt p.bins n).front = f then kindsX p f n ++ [(⟨n, h⟩ : BinK p f)] else kindsX p f n) = _
        rw [dif_neg hh]

set_option maxRecDepth 100000 in
set_option maxHeartbeats 2000000 in
theorem bins1_inX (F : Fence) (n : Nat) (h7 : F.fn 156) (hro : F.round = none) (hn : 1 ≤ n) (l Bp Bf n₀ : Nat) (p : Plan) (f : Bool) (Ab As : Option Addr) (cb cs : Nat) (hlb : p.bins.length ≤ 6) (J Jx : List (BinK p f) → World → Prop)
    (hY : ∀ (pre : List (BinK p f)) (x : BinK p f) W, J pre W → pre.length < p.bins.length → YieldAt F (n - 1) Tryz.prog l #[.int .i64 ((x.1 : Nat) : Int)] W fun e W' =>
      (e = .returned (.bool true) ∧ J (pre ++ [x]) W' ∧ KpB n₀ Bf W W') ∨ (e = .returned (.bool false) ∧ Jx (pre ++ [x]) W'))
    (W : World) (hn0 : n₀ ≤ W.heap.size) (hJ : AbidesFrom W.heap.size J) (hBf : Bf < W.heap.size) (hp0 : W.cell? ⟨Bp, 0, none⟩ = some (.slice Ab p.bins.length cb)) (_ : W.cell? ⟨Bp, 1, none⟩ = some (.slice As p.sizes.length cs))
    (hf : W.cell? ⟨Bf, 0, none⟩ = some (.bool f)) (hA : At W n₀ Ab (p.bins.flatMap cBin)) (h0 : J [] W) :
    CallsIn F n Tryz.prog 156 #[.func (.yield l) #[] #[], .pointer (some ⟨Bp, 0, none⟩), .pointer (some ⟨Bf, 0, none⟩)] W fun e W' => (∃ v, e = .returned v) ∧
      ((∃ ys, ys = kindsX p f p.bins.length ∧ J ys W') ∨ (∃ pre, (∃ k, k ≤ p.bins.length ∧ pre = kindsX p f k) ∧ Jx pre W')) := by
  refine callsIn_of_wp Tryz.func156 rfl h7 ?_ hro
  simp only [Tryz.ntmps156, List.size_toArray, List.length_cons, List.length_nil, Nat.reduceAdd, Nat.reduceSub, Array.replicate_succ, Array.replicate_zero, List.push_toArray, List.append_toArray, List.nil_append, List.cons_append]
  gi_wp2
  gi_loopw [9] (fun i wr => ∃ k : Nat, k ≤ p.bins.length ∧ i = .int .i64 k ∧ J (kindsX p f k) wr ∧ KpB n₀ Bf W wr)
    (fun i _ => p.bins.length - (intOf i).toNat)
  case atStart => exact ⟨0, Nat.zero_le _, rfl, h0, Below.refl _ _, rfl⟩
  case round =>
    obtain ⟨k, hk, rfl, hJs, hnx, hnf⟩ := hrel
    by_cases hlt : k < p.bins.length
    · obtain ⟨hok, hAb, b0, b1, b2, b3⟩ := (hA.up hnx (Nat.le_refl _)).bin hlt
      have g0 := hnf.trans hf
      have hBw : Bf < wr.heap.size := by have := hnx.size; omega
      have hJa := hJ _ _ _ none hJs (World.grownBy_alloc wr (.cells #[.bool (binAt p.bins k).front, .int .i64 (binAt p.bins k).room, .int .i64 (binAt p.bins k).low, .int .i64 (binAt p.bins k).high] 125) none) (fun r h => by cases h)
      have hBa : Below n₀ wr (wr.alloc (.cells #[.bool (binAt p.bins k).front, .int .i64 (binAt p.bins k).room, .int .i64 (binAt p.bins k).low, .int .i64 (binAt p.bins k).high] 125)) := (Below.refl _ _).alloc (by have := hnx.size; omega) _
      have hca : (wr.alloc (.cells #[.bool (binAt p.bins k).front, .int .i64 (binAt p.bins k).room, .int .i64 (binAt p.bins k).low, .int .i64 (binAt p.bins k).high] 125)).cell? ⟨Bf, 0, none⟩ = wr.cell? ⟨Bf, 0, none⟩ :=
        ((Below.refl wr.heap.size wr).alloc (Nat.le_refl _) _).cell (p := ⟨Bf, 0, none⟩) hBw
      cases hfr : ((binAt p.bins k).front == f)
      · have hno := kindsX_no (p := p) (f := f) (k := k) (by simpa using hfr)
        gi_wp2
        refine ⟨fun _ h => (by cases h), ?_⟩
        gi_wp2
        go_roundw
        case rel => exact ⟨k + 1, by omega, by simp, by rw [hno]; exact hJa, hnx.trans hBa, hca.trans hnf⟩
        case measure => simp [intOf]; omega
      · have hfk := Lib.hid (show (binAt p.bins k).front = f by simpa using hfr)
        have hyes := kindsX_yes hlt hfk.out
        obtain ⟨fn, tmps, assign, body, hy, hR⟩ : YieldAt F (n - 1) Tryz.prog l #[.int .i64 ((k : Nat) : Int)] _ _ := hY _ ⟨k, hlt, hfk.out⟩ _ hJa (by have := kindsX_length p f k; omega)
        gi_wp2
        refine hR.mono ?_
        rintro e W3 (⟨rfl, hJ3, hk3⟩ | ⟨rfl, hJx3⟩)
        · gi_wp2
          go_roundw
          case rel => exact ⟨k + 1, by omega, by simp, by rw [hyes]; exact hJ3, (hnx.trans hBa).trans hk3.1, (hk3.2.trans hca).trans hnf⟩
          case measure => simp [intOf]; omega
        · gi_wp2
          refine bodyPost_ret (results_none rfl _ _ _) rfl ?_
          exact ⟨⟨_, rfl⟩, .inr ⟨_, ⟨k + 1, by omega, hyes.symm⟩, hJx3⟩⟩
    · obtain rfl : k = p.bins.length := by omega
      gi_wp2
      go_end0
      exact ⟨⟨_, rfl⟩, .inl ⟨_, rfl, hJs⟩⟩

theorem bins_stopsX (F : Fence) (n : Nat) (h7 : F.fn 156) (hro : F.round = none) (hn : 1 ≤ n) (Bp Bf n₀ : Nat) (p : Plan) (f : Bool) (Ab As : Option Addr) (cb cs : Nat) (hlb : p.bins.length ≤ 6) (w : World) (hn0 : n₀ ≤ w.heap.size) (hBp : Bp < w.heap.size) (hBf : Bf < w.heap.size)
    (hp0 : w.cell? ⟨Bp, 0, none⟩ = some (.slice Ab p.bins.length cb)) (hp1 : w.cell? ⟨Bp, 1, none⟩ = some (.slice As p.sizes.length cs)) (hf : w.cell? ⟨Bf, 0, none⟩ = some (.bool f)) (hA : At w n₀ Ab (p.bins.flatMap cBin)) :
    SeqStopsK F n Tryz.prog 156 #[.pointer (some ⟨Bp, 0, none⟩), .pointer (some ⟨Bf, 0, none⟩)] (fun x : BinK p f => #[Value.int .i64 ((x.1 : Nat) : Int)]) (KpB n₀ Bf) (fun ys => ys = kindsX p f p.bins.length) (fun pre => ∃ k, k ≤ p.bins.length ∧ pre = kindsX p f k) p.bins.length w := fun l J Jx W hW hJ _ hY h0 =>
  bins1_inX F n h7 hro hn l Bp Bf n₀ p f Ab As cb cs hlb J Jx hY W (Nat.le_trans hn0 hW.size) hJ (Nat.lt_of_lt_of_le hBf hW.size) ((hW.cell (p := ⟨Bp, 0, none⟩) hBp).trans hp0) ((hW.cell (p := ⟨Bp, 1, none⟩) hBp).trans hp1)
    ((hW.cell (p := ⟨Bf, 0, none⟩) hBf).trans hf) (hA.up (hW.mono hn0) (Nat.le_refl _)) h0

section
variable {w w' : World} {base : Nat}
/-- Another thing than cells was written. -/
theorem Own.noncell {α : Type} {enc : α → List Value} {size : Nat} {e : TypeId} {v : Value} {l : List α} {row : Option Nat} (h : Own enc size e w base v l) (hg : w.grownBy w' row) (hr : ∀ r, row = some r → ∃ o : Obj, w.heap[r]? = some o ∧ o.isCells = false) : Own enc size e w' base v l := by
  refine h.kept hg ?_
  cases hv : v.ownBlock with
  | none => exact .inl rfl
  | some g =>
    refine .inr fun he => ?_
    obtain ⟨cur, hc⟩ := h.block hv
    obtain ⟨o, ho, hn⟩ := hr g he.symm
    rw [hc] at ho
    injection ho with ho
    subst ho
    cases hn
theorem OwnSt.noncell {V : SV} {s : State} {row : Option Nat} (h : OwnSt w base V s) (hg : w.grownBy w' row) (hr : ∀ r, row = some r → ∃ o : Obj, w.heap[r]? = some o ∧ o.isCells = false) : OwnSt w' base V s :=
  ⟨h.on.noncell hg hr, h.rlen, fun b hlt => (h.row b hlt).noncell hg hr, h.orders.noncell hg hr, h.llen, fun o ho => (h.line o ho).noncell hg hr, h.holds.noncell hg hr, h.moves.noncell hg hr, h.inn.noncell hg hr, h.out.noncell hg hr, h.fixed.noncell hg hr, h.apart, h.apartl⟩
theorem Bx.noncell {b : Nat} {t : TypeId} {rest : List Value} {V : SV} {s : State} {row : Option Nat} (h : Bx w base b t rest V s) (hg : w.grownBy w' row) (hr : ∀ r, row = some r → ∃ o : Obj, w.heap[r]? = some o ∧ o.isCells = false) : Bx w' base b t rest V s := by
  refine ⟨h.box.grown hg fun he => ?_, h.own.noncell hg hr, h.ty⟩
  obtain ⟨o, ho, hn⟩ := hr b he.symm
  have hb : w.heap[b]? = _ := h.box
  rw [hb] at ho
  injection ho with ho
  subst ho
  cases hn
end
end Wh
namespace Wh
open Go Go.RowKit Go.Shelf Go.Proofs

theorem keeps_cells {B : Nat} {W W' : World} {row : Option Nat} (hg : W.grownBy W' row) (hr : ∀ r, row = some r → ∃ cs t sp, W.heap[r]? = some (.cells cs t sp)) : KeepsFrom B W W' :=
  ⟨hg.size, fun k o _ hk hn => (hg.block k (Array.getElem?_eq_some_iff.1 hk).1 (fun e => by
    obtain ⟨cs, t, sp, hc⟩ := hr k e.symm
    rw [hc] at hk
    injection hk with hk
    subst hk
    cases hn)).trans hk⟩
theorem keeps_below {B : Nat} {W W' : World} (h : Below W.heap.size W W') : KeepsFrom B W W' := ⟨h.size, fun k _ _ hk _ => (h.block k (Array.getElem?_eq_some_iff.1 hk).1).trans hk⟩
theorem Bx.rowCells {w : World} {base b : Nat} {t : TypeId} {rest : List Value} {V : SV} {s : State} (h : Bx w base b t rest V s) {r : Nat} (hr : some r = V.moves.ownBlock) : ∃ cs t sp, w.heap[r]? = some (.cells cs t sp) := by
  obtain ⟨cur, hc⟩ := h.own.moves.block hr.symm
  exact ⟨_, _, _, hc⟩

theorem rangeBox (p : Plan) (f : Bool) (n : Nat) (h2 : 2 ≤ n) {g : Operand} {q sb : Nat} {assign body : Code} {Q : Exit → Act → World → Prop} {a : Act} {w : World} (Bp Bf n₀ : Nat) (Ab As : Option Addr) (cb cs : Nat) (hlb : p.bins.length ≤ 6) (hn0 : n₀ ≤ w.heap.size) (hBp : Bp < w.heap.size) (hBf : Bf < w.heap.size)
    (hg : a.eval g = .func (.func 156) #[] #[.pointer (some ⟨Bp, 0, none⟩), .pointer (some ⟨Bf, 0, none⟩)])
    (hp0 : w.cell? ⟨Bp, 0, none⟩ = some (.slice Ab p.bins.length cb)) (hp1 : w.cell? ⟨Bp, 1, none⟩ = some (.slice As p.sizes.length cs)) (hf : w.cell? ⟨Bf, 0, none⟩ = some (.bool f)) (hA : At w n₀ Ab (p.bins.flatMap cBin))
    (I : List (BinK p f) → World → Prop) (Ix : Code → List (BinK p f) → World → Prop) (hI : OwnFrom w.heap.size I) (hIx : ∀ c, OwnFrom w.heap.size (Ix c)) (h0 : I [] w) (hsz : ∀ pre W, I pre W → w.heap.size ≤ W.heap.size)
    (hassign : ∀ (l : Nat) (x : BinK p f) (W : World) (K : Act → World → Prop), K { tmps := (a.tmps.setIfInBounds q (.int .i64 ((x.1 : Nat) : Int))).setIfInBounds sb (.pointer (some ⟨W.heap.size, 0, none⟩)), defers := [] } (W.alloc (.cells #[.int .i64 ((x.1 : Nat) : Int)] 3)) →
      assign.wpIn (Fence.wide.inRound l) (n - 1 - 1) Tryz.prog (Exit.then K (fun _ _ _ => False)) { tmps := a.tmps.setIfInBounds q (.int .i64 ((x.1 : Nat) : Int)), defers := [] } W)
    (hbody : ∀ (l : Nat) (pre : List (BinK p f)) (x : BinK p f) (B : Nat) (W : World), w.heap.size ≤ l → (∃ r, W.heap[l]? = some (.loop r)) → I pre W → Boxed W B 3 (.int .i64 ((x.1 : Nat) : Int)) → w.heap.size ≤ B →
      body.wpIn (Fence.wide.inRound l) (n - 1 - 1) Tryz.prog (ownPostG w.heap.size (KpB n₀ Bf) I Ix (pre ++ [x]) W) { tmps := (a.tmps.setIfInBounds q (.int .i64 ((x.1 : Nat) : Int))).setIfInBounds sb (.pointer (some ⟨B, 0, none⟩)), defers := [] } W)
    (hdone : ∀ (D : Nat) (W : World), w.heap.size ≤ D → I (kindsX p f p.bins.length) W → W.heap[D]? = some (.deferred (some [])) → Q .normal { a with defers := { target := .collected D, args := #[] } :: a.defers } W)
    (hstop : ∀ (D : Nat) (c : Code) (k : Nat) (W : World), w.heap.size ≤ D → k ≤ p.bins.length → Ix c (kindsX p f k) W → W.heap[D]? = some (.deferred (some [])) → c.wpIn Fence.wide n Tryz.prog Q { a with defers := { target := .collected D, args := #[] } :: a.defers } W) :
    (Code.rangeFunc g #[q] assign body).wpIn Fence.wide n Tryz.prog Q a w := by
  refine wpIn_rangeFunc_ownH rfl (by omega) (gf := 156) (lb := #[.pointer (some ⟨Bp, 0, none⟩), .pointer (some ⟨Bf, 0, none⟩)]) hg trivial (enters_of Tryz.func156 (by kernel_rfl) rfl)
    (bins_stopsX Fence.wide (n - 1) trivial rfl (by omega) Bp Bf n₀ p f Ab As cb cs hlb w hn0 hBp hBf hp0 hp1 hf hA)
    (fun h k => ⟨h.1.trans k.1, k.2.trans h.2⟩)
    (fun W l o o' hl ho hc hw => ⟨belowK_b hn0 W l o o' hl ho hc hw, ((Below.refl w.heap.size W).grown (grownBy_putObj' W l o') (by have := (Array.getElem?_eq_some_iff.1 ho).1; omega) (fun k e => by cases e; exact hl)).cell (p := ⟨Bf, 0, none⟩) hBf⟩)
    (Below.refl _ _) (fun _ => rfl) I Ix hI hIx h0
    (fun x a' W => ∃ B, w.heap.size ≤ B ∧ a' = { tmps := (a.tmps.setIfInBounds q (.int .i64 ((x.1 : Nat) : Int))).setIfInBounds sb (.pointer (some ⟨B, 0, none⟩)), defers := [] } ∧ Boxed W B 3 (.int .i64 ((x.1 : Nat) : Int)))
    (fun x a' _ X Y row hs hg' hr => by
      obtain ⟨B, h1, h3, h4⟩ := hs
      exact ⟨B, h1, h3, (boxed_own B 3 (fun _ : Unit => Value.int .i64 ((x.1 : Nat) : Int))) () X Y row h4 hg' (fun r e => (hr r e).2)⟩)
    (fun l pre x W K hIp hK => ?_) (fun l pre x a' W hl hr hIp hAx hlt => ?_) (fun D xs W hD hS hIp hW => ?_) (fun D c pre W hD hS hIp hW => ?_)
  · have hz : Array.foldl (fun t (x : Nat × Value) => match x with | (p, v) => t.setIfInBounds p v) a.tmps (#[q].zip #[Value.int .i64 ((x.1 : Nat) : Int)]) = a.tmps.setIfInBounds q (.int .i64 ((x.1 : Nat) : Int)) := by simp
    rw [hz]
    refine hassign l x W K (hK _ _ (keeps_cells (World.grownBy_alloc W _ none) (fun r e => by cases e)) ⟨(Below.refl _ _).alloc (Nat.le_trans hn0 (hsz _ _ hIp)) _, ((Below.refl W.heap.size W).alloc (Nat.le_refl _) _).cell (p := ⟨Bf, 0, none⟩) (Nat.lt_of_lt_of_le hBf (hsz _ _ hIp))⟩ (hI.alloc _ hIp) ⟨W.heap.size, hsz _ _ hIp, rfl, Boxed.new W _ _⟩)
  · obtain ⟨B, h1, rfl, h4⟩ := hAx
    exact hbody l pre x B W hl hr hIp h4 h1
  · subst hS
    exact hdone D W hD hIp hW
  · obtain ⟨k, hk, rfl⟩ := hS
    exact hstop D c k W hD hk hIp hW

theorem rangeRound (p : Plan) (f : Bool) (n l₀ : Nat) (h2 : 2 ≤ n) {g : Operand} {q sb : Nat} {assign body : Code} {Q : Exit → Act → World → Prop} {a : Act} {w : World} {r₀ : Loop} (hl₀ : w.heap[l₀]? = some (.loop r₀)) (Bp Bf n₀ : Nat) (Ab As : Option Addr) (cb cs : Nat) (hlb : p.bins.length ≤ 6) (hn0 : n₀ ≤ w.heap.size) (hBp : Bp < w.heap.size) (hBf : Bf < w.heap.size)
    (hg : a.eval g = .func (.func 156) #[] #[.pointer (some ⟨Bp, 0, none⟩), .pointer (some ⟨Bf, 0, none⟩)])
    (hp0 : w.cell? ⟨Bp, 0, none⟩ = some (.slice Ab p.bins.length cb)) (hp1 : w.cell? ⟨Bp, 1, none⟩ = some (.slice As p.sizes.length cs)) (hf : w.cell? ⟨Bf, 0, none⟩ = some (.bool f)) (hA : At w n₀ Ab (p.bins.flatMap cBin))
    (I : List (BinK p f) → World → Prop) (Ix : Code → List (BinK p f) → World → Prop) (hI : OwnFrom w.heap.size I) (hIx : ∀ c, OwnFrom w.heap.size (Ix c)) (h0 : I [] w)
    (hassign : ∀ (l : Nat) (x : BinK p f) (W : World) (K : Act → World → Prop), K { tmps := (a.tmps.setIfInBounds q (.int .i64 ((x.1 : Nat) : Int))).setIfInBounds sb (.int .i64 ((x.1 : Nat) : Int)), defers := [] } W →
      assign.wpIn (Fence.wide.inRound l) (n - 1 - 1) Tryz.prog (Exit.then K (fun _ _ _ => False)) { tmps := a.tmps.setIfInBounds q (.int .i64 ((x.1 : Nat) : Int)), defers := [] } W)
    (hbody : ∀ (l : Nat) (pre : List (BinK p f)) (x : BinK p f) (W : World), I pre W →
      body.wpIn (Fence.wide.inRound l) (n - 1 - 1) Tryz.prog (ownPostG w.heap.size (KpB n₀ Bf) I Ix (pre ++ [x]) W) { tmps := (a.tmps.setIfInBounds q (.int .i64 ((x.1 : Nat) : Int))).setIfInBounds sb (.int .i64 ((x.1 : Nat) : Int)), defers := [] } W)
    (hdone : ∀ (W : World), I (kindsX p f p.bins.length) W → Q .normal a W)
    (hstop : ∀ (c : Code) (k : Nat) (W : World), k ≤ p.bins.length → Ix c (kindsX p f k) W → c.wpIn (Fence.wide.inRound l₀) n Tryz.prog Q a W) :
    (Code.rangeFunc g #[q] assign body).wpIn (Fence.wide.inRound l₀) n Tryz.prog Q a w := by
  refine wpIn_rangeFunc_ownN (F := Fence.wide.inRound l₀) (l₀ := l₀) rfl hl₀ (by omega) (gf := 156) (lb := #[.pointer (some ⟨Bp, 0, none⟩), .pointer (some ⟨Bf, 0, none⟩)]) hg trivial (enters_of Tryz.func156 (by kernel_rfl) rfl)
    (SeqStopsK.inRound l₀ (bins_stopsX Fence.wide (n - 1) trivial rfl (by omega) Bp Bf n₀ p f Ab As cb cs hlb w hn0 hBp hBf hp0 hp1 hf hA))
    (fun h k => ⟨h.1.trans k.1, k.2.trans h.2⟩)
    (fun W l o o' hl ho hc hw => ⟨belowK_b hn0 W l o o' hl ho hc hw, ((Below.refl w.heap.size W).grown (grownBy_putObj' W l o') (by have := (Array.getElem?_eq_some_iff.1 ho).1; omega) (fun k e => by cases e; exact hl)).cell (p := ⟨Bf, 0, none⟩) hBf⟩)
    (Below.refl _ _) (fun _ => rfl) I Ix hI hIx h0
    (fun x a' _ => a' = { tmps := (a.tmps.setIfInBounds q (.int .i64 ((x.1 : Nat) : Int))).setIfInBounds sb (.int .i64 ((x.1 : Nat) : Int)), defers := [] })
    (fun x a' _ X Y row hs hg' hr => hs)
    (fun l pre x W K hIp hK => ?_) (fun l pre x a' W hl hr hIp hAx hlt => ?_) (fun xs W hS hIp => ?_) (fun c pre W hS hIp => ?_)
  · have hz : Array.foldl (fun t (x : Nat × Value) => match x with | (p, v) => t.setIfInBounds p v) a.tmps (#[q].zip #[Value.int .i64 ((x.1 : Nat) : Int)]) = a.tmps.setIfInBounds q (.int .i64 ((x.1 : Nat) : Int)) := by simp
    rw [hz]
    exact hassign l x W K (hK _ _ (KeepsFrom.refl _ _) ⟨Below.refl _ _, rfl⟩ hIp rfl)
  · subst hAx
    exact hbody l pre x W hIp
  · subst hS
    exact hdone W hIp
  · obtain ⟨k, hk, rfl⟩ := hS
    exact hstop c k W hk hIp
end Wh
namespace Wh
open Go Go.RowKit Go.Shelf Go.Proofs
attribute [local go_sem] run_indexAt_letter

set_option maxHeartbeats 4000000 in
theorem flLacks (w : World) (v vs : Value) (p : Plan) (s : State) (b g : Nat) (hp : PlanV w w.heap.size v p) (hv : StateV w w.heap.size vs s) (hs : Sane p s) (hb : b < p.bins.length) (hg : g < p.sizes.length) :
    Calls Tryz.prog 104 #[v, vs, .int .i64 b, .int .i64 g] w fun e w' => e = .returned (.tuple #[.int .i64 ((p.bin b).high - (cell s.on b g + coming s b g)), .bool (decide (cell s.on b g + coming s b g < (p.bin b).low))]) ∧ Below w.heap.size w w' := by
  have hsn := Lib.hid hs
  have hbo : b < s.on.length := by rw [hs.onLen]; exact hb
  have hgl : g < (rowAt s.on b).length := by rw [hs.rowLen hb]; exact hg
  have hbi : (b : Int) < (s.on.length : Int) := by omega
  have hbp : (b : Int) < (p.bins.length : Int) := by omega
  have hgi : (g : Int) < ((rowAt s.on b).length : Int) := by omega
  have t1 := hs.cell hb hg
  have t2 := coming_range hs b g
  have t3 : 0 ≤ (p.bin b).high ∧ (p.bin b).high ≤ 200 := (right_bin hs.plan hb).2.2
  have hw1 : IntKind.i64.wrap (cell s.on b g + coming s b g) = cell s.on b g + coming s b g := IntWalk.i64_in _ (by omega)
  have hw2 : IntKind.i64.wrap ((p.bin b).high - (cell s.on b g + coming s b g)) = (p.bin b).high - (cell s.on b g + coming s b g) := IntWalk.i64_in _ (by omega)
  clear hs
  obtain ⟨Ab, cb, As, cs, rfl, hP', hBn, hSz, hlb, hls⟩ := openPl hp
  obtain ⟨A0, c0, A1, c1, A2, c2, A3, c3, A4, c4, A5, c5, A6, c6, rfl, hV, hN, hO, hH, hM, hI, hU, hX, hl0, hl1, hl2, hl3, hl4, hl5, hl6⟩ := openOne hv
  go_enter Tryz.func104, Tryz.ntmps104
  go_wp2_with fail
  obtain ⟨W0, hW0, hb0, hsz0, hsz1, hsE, hK⟩ := boxesTwo w p s Ab cb As cs A0 c0 A1 c1 A2 c2 A3 c3 A4 c4 A5 c5 A6 c6
  rw [hW0]
  clear hW0
  obtain ⟨⟨y0, y1⟩, x0, x1, x2, x3, x4, x5, x6, hbz0, hbz1⟩ := hK.out W0 (Below.refl W0.heap.size W0)
  obtain ⟨Ar, cr, or0, lr0, rr0, hrow⟩ := (hN.out W0 hb0).row hbo
  obtain ⟨or1, lr1, rr1⟩ := hrow.at_.int hgl
  change W0.cell? _ = some (.int .i64 (cell s.on b g)) at rr1
  have q1 := fun o d os => cells_wld (w := W0) (b := w.heap.size + 1) hbz0 o d os
  have q2 := fun o d os => cells_wld (w := W0) (b := ablk A0) lr0 o d os
  have q3 := fun o d os => cells_wld (w := W0) (b := ablk Ar) lr1 o d os
  have hV2 := Lib.hid (fun d os => hV.out _ (hb0.trans ((below_wld W0 d os).mono hb0.size)))
  go_wp2_with fail
  refine wp_region_wld (by kernel_rfl) (by kernel_rfl) ?_
  repeat (go_big_quiet_step ((go_at_call 94; refine calls_wld (sComing _ _ p s b g (hV2.out _ _) hsn.out))))
  refine wpQuiet_nil ?_
  intro W1 hw'
  have hb1 := below_of_cls hw'
  clear hw'
  clear q1 q2 q3 hV2 or0 lr0 rr0 hrow or1 lr1 rr1
  clear y0 y1 x0 x1 x2 x3 x4 x5 x6 hbz0 hbz1
  have hB1 := hb0.trans (hb1.mono hb0.size)
  obtain ⟨⟨y0, y1⟩, x0, x1, x2, x3, x4, x5, x6, hbz0, hbz1⟩ := hK.out W1 (hb1)
  obtain ⟨ob, lb, e0, e1, e2, e3⟩ := (hBn.out W1 hB1).at_.bin hb
  change W1.cell? _ = some (.int .i64 (p.bin b).low) at e2
  change W1.cell? _ = some (.int .i64 (p.bin b).high) at e3
  clear e0 e1
  go_wp2_with fail
  go_quiet (fail)
  have hBd := below_drewN hB1 nq
  go_wp2_with fail
  exact bodyPost_ret (v := .tuple #[.int .i64 ((p.bin b).high - (cell s.on b g + coming s b g)), .bool (decide (cell s.on b g + coming s b g < (p.bin b).low))]) (by simp [results, Tryz.results104, go_sem]) rfl ⟨rfl, hBd⟩
end Wh
