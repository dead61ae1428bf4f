/- Texts of the claim, joined: FillB, PickB, FillF. -/
import Derived.Deep.RegionLaw
import Derived.Test.YtijilfghfahgjaaQ21
import Derived.Test.YtijilfghfahgjaaQ23
namespace Wh
open Go Go.RowKit Go.Shelf Go.Proofs
attribute [local go_sem] run_indexAt_letter evL_tmp evL_const evL_func

/-- The moves' slice has room for what it holds. -/
def MvCap (v : Value) : Prop := ∃ v0 v1 v2 A n c v4 v5 v6, v = .agg #[v0, v1, v2, .slice A n c, v4, v5, v6] ∧ n ≤ c
theorem MvCap.at {v0 v1 v2 v4 v5 v6 : Value} {A : Option Addr} {n c : Nat} (h : MvCap (.agg #[v0, v1, v2, .slice A n c, v4, v5, v6])) : n ≤ c := by
  obtain ⟨_, _, _, _, _, _, _, _, _, e, h⟩ := h
  injection e with e
  simp only [Array.mk.injEq, List.cons.injEq, and_true] at e
  obtain ⟨_, _, _, e3, _⟩ := e
  injection e3 with e1 e2 e3
  omega
theorem run_app_moves (w : World) (base : Nat) (v : Value) (l m : List Move) (hown : Own cMove 4 40 w base v l) (g o c B : Nat) (hA : At w B (some ⟨g, o, none⟩) (m.flatMap cMove)) (hn : l.length + m.length ≤ 1000) (hbase : base ≤ w.heap.size) :
    ∃ v' w', (Builtin.append_ #[29, 29] 29 #[v, .slice (some ⟨g, o, none⟩) m.length c]).run Try.prog w = .ok v' w' ∧ Own cMove 4 40 w' base v' (l ++ m) ∧ w.grownBy w' v.ownBlock ∧ Below base w w' := by
  obtain ⟨ii, hi, hz, hsize, hbytes⟩ := infoMove
  obtain ⟨v', w3, hr, hown3, hg3, _, _⟩ := run_append_own_at (P := Try.prog) w base 29 29 40 ii _ 4 32 Try.underlying29 hi hz hsize hbytes rfl (by decide) v _ _ hown ⟨g, o, none⟩ m.length c (m.flatMap cMove) (flat_length cMove 4 (fun _ => rfl) m)
    (fun j u hj => by rw [Addr.add_lit]; exact hA.cell hj) (fun u hu => by obtain ⟨y, _, hy⟩ := List.mem_flatMap.1 hu; exact oneMove y u hy) (by unfold maxLen; omega) (by omega) hbase
  refine ⟨v', w3, hr, ?_, hg3, (Below.refl _ _).grown hg3 hbase fun k hk => (World.ownsRow.lt hown k hk).1⟩
  unfold Own
  rw [List.length_append, List.flatMap_append]
  exact hown3
theorem At.head {w : World} {B : Nat} {A : Option Addr} {xs ys : List Value} (h : At w B A (xs ++ ys)) : At w B A xs := fun hn => by
  obtain ⟨h1, h2, h3⟩ := h (by simp [hn])
  refine ⟨h1, h2, fun j v hj => h3 j v ?_⟩
  rw [List.getElem?_append_left (by
    have := (List.getElem?_eq_some_iff.1 hj).1
    exact this)]
  exact hj

set_option maxHeartbeats 8000000 in
set_option maxRecDepth 100000 in
theorem rMovedOf (w : World) (v vs : Value) (p : Plan) (s : State) (k n : Int) (hp : PlanV w w.heap.size v p) (hv : StateV w w.heap.size vs s) (hcap : MvCap vs) :
    Calls Try.prog 16 #[v, vs, .int .i64 k, .int .i64 n] w (ActPost (moved p s k n) w) := by
  obtain ⟨Ab, cb, As, cs, rfl, hP', hBn, hSz, hlb, hls⟩ := openPl hp
  obtain ⟨A0, c0, A1, c1, A2, c2, A3, c3, A4, c4, A5, c5, A6, c6, rfl, hV, hN, hO, hH, hM, hI, hU, hX, hl0, hl1, hl2, hl3, hl4, hl5, hl6⟩ := openOne hv
  go_enter Try.func16, Try.ntmps16
  go_wp2_with fail
  obtain ⟨W0, hW0, hb0, hsz0, hsz1, hsE, hK, hR⟩ := boxesAct w p s Ab cb As cs A0 c0 A1 c1 A2 c2 A3 c3 A4 c4 A5 c5 A6 c6
  rw [hW0]
  clear hW0
  have hc3 := hcap.at
  clear hcap
  obtain ⟨⟨y0, y1⟩, x0, x1, x2, x3, x4, x5, x6, hbz0, hbz1⟩ := hK.out W0 (Below.refl W0.heap.size W0)
  go_wp2_with fail
  clear y0 y1 x0 x1 x2 x3 x4 x5 x6 hbz0 hbz1
  refine (rCheckState _ _ _ p s (hP'.out _ hb0) (hV.out _ hb0)).mono ?_
  rintro e W1 ⟨rfl, h1⟩
  have hB1 := hb0.trans (h1.mono hb0.size)
  obtain ⟨⟨y0, y1⟩, x0, x1, x2, x3, x4, x5, x6, hbz0, hbz1⟩ := hK.out W1 (h1)
  by_cases hc : checkState p s = 0
  · have hc' := Lib.hid hc
    have hsn := Lib.hid (checkState_zero.1 hc).1
    rw [hc]
    clear hc
    have h8 := hsn.out.moves8
    have hw4 : IntKind.i64.wrap ((s.moves.length : Int) - 1) = (s.moves.length : Int) - 1 := IntWalk.i64_in _ (by omega)
    cases g1 : within k 0 ((s.moves.length : Int) - 1)
    · have hfin := Lib.hid (moved_none (k := k) (n := n) hc'.out (by have := within_false.1 g1; omega))
      go_wp2_with fail
      refine (withinAt g1 _).mono ?_
      rintro e w' ⟨rfl, rfl⟩
      clear g1
      have hbx9 := hR.out _ h1
      go_wp2_with (refine wpList_store_state rfl (.tmp 8) (.tmp 27) rfl rfl (w.heap.size + 1 + 1) nilSV nilSV hbx9 rfl rfl rfl (fun w9 hbox9 hg9 => ?_))
      obtain ⟨p0, p1, p2, p3, p4, p5, p6⟩ := BoxAt.cells hbox9
      have hfin9 : Below w.heap.size w w9 := Below.grown hB1 hg9 (Below.size hB1) (fun k hk => by injection hk with hk; omega)
      go_wp2_with fail
      exact bodyPost_ret (v := .tuple #[nilSV.val, .int .i64 4]) (by simp [results, Try.results16, go_sem, SV.val, p0, p1, p2, p3, p4, p5, p6]) rfl (actErr hfin.out hfin9)
    have g1' := within_iff.1 g1
    obtain ⟨i, rfl⟩ : ∃ i : Nat, k = i := ⟨k.toNat, by omega⟩
    have hk : i < s.moves.length := by omega
    have hki : (i : Int) < (s.moves.length : Int) := by omega
    obtain ⟨gd, sr, ds, mn, hxm⟩ : ∃ gd sr ds mn, moveAt s.moves i = ⟨gd, sr, ds, mn⟩ := ⟨_, _, _, _, rfl⟩
    have hmv := hsn.out.moveAt hk
    rw [hxm] at hmv
    simp only at hmv
    obtain ⟨g, rfl⟩ : ∃ g : Nat, gd = g := ⟨gd.toNat, by omega⟩
    obtain ⟨a, rfl⟩ : ∃ a : Nat, sr = a := ⟨sr.toNat, by omega⟩
    obtain ⟨d, rfl⟩ : ∃ d : Nat, ds = d := ⟨ds.toNat, by omega⟩
    have hgp : g < p.sizes.length := by omega
    have hap : a < p.bins.length := by omega
    have hdp : d < p.bins.length := by omega
    have had : a ≠ d := by omega
    have hao : a < s.on.length := by rw [hsn.out.onLen]; exact hap
    have hdo : d < s.on.length := by rw [hsn.out.onLen]; exact hdp
    have hga : g < (rowAt s.on a).length := by rw [hsn.out.rowLen hap]; exact hgp
    have hgd : g < (rowAt s.on d).length := by rw [hsn.out.rowLen hdp]; exact hgp
    have hai : (a : Int) < (s.on.length : Int) := by omega
    have hdi : (d : Int) < (s.on.length : Int) := by omega
    have hgai : (g : Int) < ((rowAt s.on a).length : Int) := by omega
    have hgdi : (g : Int) < ((rowAt s.on d).length : Int) := by omega
    have hca := hsn.out.cell hap hgp
    have hcd := hsn.out.cell hdp hgp
    have hxm' := Lib.hid hxm
    obtain ⟨okm, lm, e0, e1, e2, e3⟩ := (hM.out W1 hB1).at_.move hk
    rw [hxm] at e0 e1 e2 e3
    simp only at e0 e1 e2 e3
    have h1a := h1.alloc h1.size (.cells #[.int .i64 g, .int .i64 a, .int .i64 d, .int .i64 mn] 40)
    have hB1a := hB1.alloc hB1.size (.cells #[.int .i64 g, .int .i64 a, .int .i64 d, .int .i64 mn] 40)
    clear hxm
    go_wp2_with fail
    refine (withinAt g1 _).mono ?_
    rintro e w' ⟨rfl, rfl⟩
    clear g1 g1' hw4
    go_wp2_with fail
    cases g3 : within n 0 mn
    · have hfin := Lib.hid (moved_range (n := n) hc'.out hk (by rw [hxm'.out]; have := within_false.1 g3; simp only; omega))
      refine (withinAt g3 _).mono ?_
      rintro e w' ⟨rfl, rfl⟩
      clear g3
      have hbx9 := hR.out _ h1a
      go_wp2_with (refine wpList_store_state rfl (.tmp 8) (.tmp 38) rfl rfl (w.heap.size + 1 + 1) nilSV nilSV hbx9 rfl rfl rfl (fun w9 hbox9 hg9 => ?_))
      obtain ⟨p0, p1, p2, p3, p4, p5, p6⟩ := BoxAt.cells hbox9
      have hfin9 : Below w.heap.size w w9 := Below.grown hB1a hg9 (Below.size hB1a) (fun k hk => by injection hk with hk; omega)
      go_wp2_with fail
      exact bodyPost_ret (v := .tuple #[nilSV.val, .int .i64 3]) (by simp [results, Try.results16, go_sem, SV.val, p0, p1, p2, p3, p4, p5, p6]) rfl (actErr hfin.out hfin9)
    have g3' := within_iff.1 g3
    refine (withinAt g3 _).mono ?_
    rintro e w' ⟨rfl, rfl⟩
    clear g3
    have hbl1 := Lib.hid (Blk.new W1 40 #[.int .i64 g, .int .i64 a, .int .i64 d, .int .i64 mn])
    obtain ⟨Ar, cr, or0, lr0, rr0, hrow⟩ := (hN.out W1 hB1).row hdo
    obtain ⟨or1, lr1, rr1⟩ := hrow.at_.int hgd
    change W1.cell? _ = some (.int .i64 (cell s.on d g)) at rr1
    have hw0 : IntKind.i64.wrap (cell s.on d g + n) = cell s.on d g + n := IntWalk.i64_in _ (by omega)
    by_cases hm : 200 < cell s.on d g + n
    · have hfin := Lib.hid (moved_many (n := n) hc'.out hk (by rw [hxm'.out]; exact ⟨by omega, by simp only; omega⟩) (by rw [hxm'.out]; simp only [Int.toNat_natCast]; exact hm))
      go_wp2_with fail
      go_quiet (fail)
      have h0d := below_drewN h1a nq
      have hBd := below_drewN hB1a nq
      clear y0 y1 x0 x1 x2 x3 x4 x5 x6 hbz0 hbz1
      clear e0 e1 e2 e3 okm lm or0 lr0 rr0 hrow or1 lr1 rr1 hbl1 h1a hB1a
      generalize (W1.alloc (.cells #[.int .i64 g, .int .i64 a, .int .i64 d, .int .i64 mn] 40)).drewN nq = W4 at h0d hBd ⊢
      have hbx9 := hR.out _ h0d
      go_wp2_with (refine wpList_store_state rfl (.tmp 8) (.tmp 52) rfl rfl (w.heap.size + 1 + 1) nilSV nilSV hbx9 rfl rfl rfl (fun w9 hbox9 hg9 => ?_))
      obtain ⟨p0, p1, p2, p3, p4, p5, p6⟩ := BoxAt.cells hbox9
      have hfin9 : Below w.heap.size w w9 := Below.grown hBd hg9 (Below.size hBd) (fun k hk => by injection hk with hk; omega)
      go_wp2_with fail
      exact bodyPost_ret (v := .tuple #[nilSV.val, .int .i64 2]) (by simp [results, Try.results16, go_sem, SV.val, p0, p1, p2, p3, p4, p5, p6]) rfl (actErr hfin.out hfin9)
    have hmd := decide_eq_false hm
    have hfin := Lib.hid (moved_ok (n := n) hc'.out ⟨hk, by omega, by rw [hxm'.out]; simp only; omega, by rw [hxm'.out]; simp only [Int.toNat_natCast]; omega⟩)
    go_wp2_with fail
    go_quiet (fail)
    have h0d := below_drewN h1a nq
    have hBd := below_drewN hB1a nq
    have hbl4 := Lib.hid (hbl1.out.below (below_drewN (Below.refl _ _) nq) hbl1.out.lt)
    clear y0 y1 x0 x1 x2 x3 x4 x5 x6 hbz0 hbz1
    clear e0 e1 e2 e3 okm lm or0 lr0 rr0 hrow or1 lr1 rr1 hbl1 h1a hB1a hw0 hmd
    generalize W1.heap.size = wl at hbl4 ⊢
    generalize (W1.alloc (.cells #[.int .i64 g, .int .i64 a, .int .i64 d, .int .i64 mn] 40)).drewN nq = W4 at h0d hBd hbl4 ⊢
    obtain ⟨⟨y0, y1⟩, x0, x1, x2, x3, x4, x5, x6, hbz0, hbz1⟩ := hK.out W4 (h0d)
    go_wp2_with fail
    clear y0 y1 x0 x1 x2 x3 x4 x5 x6 hbz0 hbz1
    refine (rOwnState _ _ p s (hV.out _ hBd) hsn.out).mono ?_
    rintro e W5 ⟨_, rfl, ⟨V5, rfl, ho5⟩, h5⟩
    have hone6 := (ho5).one
    have hnb6 := newBox (W5)
    go_wp2_with (refine wpList_store_state rfl (.tmp 12) (.tmp 54) rfl rfl (World.heap (W5)).size nilSV V5 hnb6 rfl rfl hone6 (fun w6 hbox6 hg6 => ?_); refine Hid.out ?_)
    unfold Hid
    have hbb6 := newBelow hg6
    have hbl6 := hbox6.lt
    clear hone6 hnb6 hg6
    have h56 := h5.trans (hbb6.mono h5.size)
    have hx6 := Lib.hid (Bx.of hbox6 (ho5.below hbb6))
    have h06 := h0d.trans (h56.mono h0d.size)
    have hbl6 := Lib.hid (hbl4.out.below h56 hbl4.out.lt)
    have hlw : wl < W4.heap.size := hbl4.out.lt
    have hle : w.heap.size ≤ W4.heap.size := hBd.size
    have hle0 : W0.heap.size ≤ W4.heap.size := h0d.size
    have hle5 : W4.heap.size ≤ W5.heap.size := h5.size
    clear hbox6 ho5 hbb6 h5 hbl4 h0d hBd h56
    have hlw6 : wl < w6.heap.size := hbl6.out.lt
    generalize W4.heap.size = base at hx6 hle hle0 hle5 hlw
    generalize W5.heap.size = bx at hx6 hle5 ⊢
    have hble : base ≤ bx := hle5
    have hcd1 : cell (pk1 s a g n).on d g = cell s.on d g := by
      show cell (setCell s.on a g _) d g = _
      rw [cell_setCell hao hga, if_neg (by omega)]
    have hw1 : IntKind.i64.wrap (cell s.on a g - n) = cell s.on a g - n := IntWalk.i64_in _ (by omega)
    have hw2 : IntKind.i64.wrap (cell s.on d g + n) = cell s.on d g + n := IntWalk.i64_in _ (by omega)
    obtain ⟨gon, con, cur0, gr, cr, cur, eon, hgon, hbn0, r0, er, hgrb, hbr, rc⟩ := hx6.out.own.onAt hao hga
    have c0 := hx6.out.cells.1
    rw [eon] at c0
    have er' := Lib.hid er
    clear eon er hbn0 hbr
    have m0 := hbl6.out.cell (j := 0) rfl
    have m1 := hbl6.out.cell (j := 1) rfl
    go_wp2_with fail
    go_still_tail 21, (by kernel_rfl)
    change wpList _ _ _ _ _ w6.drew
    refine wp_st_on rfl (.tmp 75) (.tmp 74) rfl rfl (i := a) (g := g) (q := cell s.on a g - n) hx6.out.drew hao hga er'.out rfl rfl (fun w7 hx7 hst7 => ?_)
    refine wpList_nil ?_
    have h07 := h06.drew.trans (hst7.below (B := W0.heap.size) (fun q hq => by omega) h06.drew.size)
    have hx7' := Lib.hid (show Bx w7 base bx 31 [] V5 (pk1 s a g n) from hx7)
    have hbl7 := Lib.hid (hst7.blk (show Blk w6.drew wl 40 _ from hbl6.out) (by omega))
    clear hx7 hst7 c0 r0 rc m0 m1 hw1 hx6 h06 er' hbl6
    have hdo1 : d < (pk1 s a g n).on.length := by show d < (setCell _ _ _ _).length; rw [length_setCell]; exact hdo
    have hgd1 : g < (rowAt (pk1 s a g n).on d).length := by show g < (rowAt (setCell _ _ _ _) d).length; rw [rowlen_setCell]; exact hgd
    obtain ⟨gon, con, cur0, gr, cr, cur, eon, hgon, hbn0, r0, er, hgrb, hbr, rc⟩ := hx7'.out.own.onAt hdo1 hgd1
    rw [hcd1] at rc
    have c0 := hx7'.out.cells.1
    rw [eon] at c0
    have hl1 : (pk1 s a g n).on.length = s.on.length := length_setCell
    have hl2 : (rowAt (pk1 s a g n).on d).length = (rowAt s.on d).length := rowlen_setCell
    rw [hl1] at c0
    rw [hl2] at r0
    have er' := Lib.hid er
    clear eon er hbn0 hbr hl1 hl2
    have m0 := hbl7.out.cell (j := 0) rfl
    have m2 := hbl7.out.cell (j := 2) rfl
    go_wp2_with fail
    go_still_tail 21, (by kernel_rfl)
    change wpList _ _ _ _ _ w7.drew
    refine wp_st_on rfl (.tmp 96) (.tmp 95) rfl rfl (i := d) (g := g) (q := cell s.on d g + n) hx7'.out.drew hdo1 hgd1 er'.out rfl rfl (fun w8 hx8 hst8 => ?_)
    refine wpList_nil ?_
    have h08 := h07.drew.trans (hst8.below (B := W0.heap.size) (fun q hq => by omega) h07.drew.size)
    have hx8' := Lib.hid (show Bx w8 base bx 31 [] V5 (mv2 s a d g n) by unfold mv2; rw [hcd1]; exact hx8)
    clear hx8 hst8 c0 r0 rc m0 m2 hw2 hx7' h07 er' hbl7 hdo1 hgd1
    have hB8 := hb0.trans (h08.mono hb0.size)
    have hMv0 := (hM.out w8 hB8).at_
    obtain ⟨⟨g3, o3, rfl⟩, _⟩ := hMv0.move hk
    have hMv := Lib.hid (show ∀ W, Below w8.heap.size w8 W → At W W.heap.size (some ⟨g3, o3, none⟩) (s.moves.flatMap cMove) from fun W hW => (hM.out W (hB8.trans (hW.mono hB8.size))).at_)
    have hlt : (s.moves.take i).length = i := by rw [List.length_take]; omega
    have hld : (s.moves.drop (i + 1)).length = s.moves.length - (i + 1) := List.length_drop
    have hba : Below w8.heap.size w8 (w8.alloc (.cells #[] 40)).drew := ((Below.refl _ _).alloc (Nat.le_refl _) _).drew
    have hown0 : Own cMove 4 40 (w8.alloc (.cells #[] 40)).drew w8.heap.size (.slice (some ⟨w8.heap.size, 0, none⟩) 0 0) [] := (Own.made0 w8 _ (Nat.le_refl _) : Own cMove 4 40 (w8.alloc (.cells #[] 40)) w8.heap.size (.slice (some ⟨w8.heap.size, 0, none⟩) 0 0) [])
    obtain ⟨v1, w1, hr1, hown1, hg1, hb1⟩ := run_app_moves _ w8.heap.size _ [] (s.moves.take i) hown0 g3 o3 c3 _ (At.head (ys := (s.moves.drop i).flatMap cMove) (by rw [← List.flatMap_append, List.take_append_drop]; exact hMv.out _ hba)) (by rw [hlt]; simp only [List.length_nil]; omega) hba.size
    rw [hlt] at hr1
    rw [List.nil_append] at hown1
    have h81 := hba.trans hb1
    obtain ⟨A1', c1', rfl⟩ := hown1.isSlice
    rw [hlt] at hr1 hown1
    have ho7 : ∃ o7, At w1 w1.heap.size (some ⟨g3, o7, none⟩) ((s.moves.drop (i + 1)).flatMap cMove) ∧ (c3 = i + 1 ∧ o7 = o3 ∨ ¬ c3 = i + 1 ∧ o7 = o3 + (i + 1) * 4) := by
      by_cases hcq : c3 = i + 1
      · refine ⟨o3, ?_, .inl ⟨hcq, rfl⟩⟩
        have : s.moves.drop (i + 1) = [] := List.drop_eq_nil_of_le (by omega)
        rw [this]
        exact At.nil
      · refine ⟨o3 + (i + 1) * 4, ?_, .inr ⟨hcq, rfl⟩⟩
        have h2 := hMv.out _ h81
        rw [← List.take_append_drop (i + 1) s.moves, List.flatMap_append] at h2
        have h3 := h2.tail
        rwa [flat_length cMove 4 (fun _ => rfl), List.length_take, Nat.min_eq_left (by omega)] at h3
    obtain ⟨o7, hA7, ho7⟩ := ho7
    obtain ⟨v2, w2, hr2, hown2, hg2, hb2⟩ := run_app_moves w1 w8.heap.size (.slice A1' i c1') (s.moves.take i) (s.moves.drop (i + 1)) hown1 g3 o7 (c3 - (i + 1)) _ hA7 (by rw [hlt, hld]; omega) h81.size
    rw [hld] at hr2
    try rw [hlt] at hr2
    rw [← List.eraseIdx_eq_take_drop_succ] at hown2
    obtain ⟨A2', c2', rfl⟩ := hown2.isSlice
    have h82 := h81.trans hb2
    have h01 := h08.trans (h81.mono h08.size)
    have h02 := h08.trans (h82.mono h08.size)
    have hx2 := hx8'.out.below h82
    have hO2 := Lib.hid (show OwnSt w2 base { V5 with moves := .slice A2' (s.moves.eraseIdx i).length c2' } { mv2 s a d g n with moves := s.moves.eraseIdx i } from hx2.own.newMoves (World.grownBy.refl w2 _) (hown2.from_ (by have := hx8'.out.lt; omega)))
    have hbx2 := Lib.hid hx2.boxAt
    have b3 : w2.cell? ⟨bx, 3, none⟩ = some V5.moves := hx2.cells.2.2.2.1
    have f3 : w2.frozen? ⟨bx, 3, none⟩ = false := hx2.boxAt.blk.frozen 3
    have hr1' := Lib.hid hr1
    have hr2' := Lib.hid hr2
    have q1 : i ≤ c3 := by omega
    have q2 : (i : Int) ≤ (c3 : Int) := by omega
    have q3 : (0 : Int) ≤ (i : Int) + 1 := by omega
    have q4 : (i : Int) + 1 ≤ (s.moves.length : Int) := by omega
    have q5 : ((i : Int) + 1).toNat = i + 1 := by omega
    have q6 : ¬ (c3 = 0) := by omega
    have q7 : IntKind.i64.wrap ((i : Int) + 1) = (i : Int) + 1 := IntWalk.i64_in _ (by omega)
    have h82' := Lib.hid h82
    obtain ⟨⟨y0, y1⟩, x0, x1, x2, x3, x4, x5, x6, hbz0, hbz1⟩ := hK.out w8 (h08)
    obtain ⟨⟨y01, y11⟩, x01, x11, x21, x31, x41, x51, x61, hbz01, hbz11⟩ := hK.out w1 (h01)
    obtain ⟨⟨y02, y12⟩, x02, x12, x22, x32, x42, x52, x62, hbz02, hbz12⟩ := hK.out w2 (h02)
    clear hown0 hown1 hown2 hr1 hr2 hA7 hx2 hg1 hg2 hb1 hb2 hba h81 h82 h01 hMv0 hlt hld hx8' h08 hB8
    rcases ho7 with ⟨hcq, ho7⟩ | ⟨hcq, ho7⟩
    · subst ho7
      have hcq' : (c3 = i + 1) = True := eq_true hcq
      clear hcq
      go_wp2_with fail
      go_region_law (first | refine step_append_at _ rfl (.tmp 97) (.tmp 101) 29 29 rfl (.slice (some ⟨w8.heap.size, 0, none⟩) 0 0) (.slice (some ⟨g3, o7, none⟩) i c3) (by simp [Act.eval, Act.put]) (by simp [Act.eval, Act.put]) hr1'.out ?_ | refine step_append_at _ rfl (.tmp 102) (.tmp 107) 29 29 rfl (.slice A1' i c1') (.slice (some ⟨g3, o7, none⟩) (s.moves.length - (i + 1)) (c3 - (i + 1))) (by simp [Act.eval, Act.put]) (by simp [Act.eval, Act.put]) hr2'.out ?_)
      all_goals
        clear y0 y1 x0 x1 x2 x3 x4 x5 x6 hbz0 hbz1
        clear y01 y11 x01 x11 x21 x31 x41 x51 x61 hbz01 hbz11
        clear y02 y12 x02 x12 x22 x32 x42 x52 x62 hbz02 hbz12
        clear b3 f3 q1 q2 q3 q4 q5 q6 q7
        obtain ⟨hx10, hg10⟩ := Bx.set' (V := V5) (V' := { V5 with moves := .slice A2' (s.moves.eraseIdx i).length c2' }) (s' := { mv2 s a d g n with moves := s.moves.eraseIdx i }) (rest := []) (by rw [List.append_nil]; exact hbx2.out.blk) hO2.out boxT 3 (.slice A2' (s.moves.eraseIdx i).length c2') rfl
        have hx10' := Lib.hid (show Bx (w2.setCell ⟨bx, 3, none⟩ (.slice A2' (s.moves.eraseIdx i).length c2')) base bx 31 [] { V5 with moves := .slice A2' (s.moves.eraseIdx i).length c2' } (movedS s i n) by rw [← moved_mv hxm'.out]; exact hx10)
        have h010 := Below.grown h02 hg10 h02.size (fun k hk => by injection hk with hk; omega)
        clear hx10 hg10 hbx2 hO2 hr1' hr2' hcq'
        generalize w2.setCell ⟨bx, 3, none⟩ (.slice A2' (s.moves.eraseIdx i).length c2') = w10 at hx10' h010 ⊢
        have hB10 := hb0.trans (h010.mono hb0.size)
        generalize ({ V5 with moves := .slice A2' (s.moves.eraseIdx i).length c2' } : SV) = V9 at hx10'
        have hbx9 := hR.out _ h010
        obtain ⟨b0, b1, b2, b3, b4, b5, b6⟩ := BoxAt.cells hx10'.out.boxAt
        have hone9 := OwnSt.one hx10'.out.own
        go_wp2_with (refine wpList_store_state rfl (.tmp 8) (.tmp 110) rfl rfl (w.heap.size + 1 + 1) nilSV V9 hbx9 rfl rfl hone9 (fun w9 hbox9 hg9 => ?_))
        have hO9 := OwnSt.keptBy hx10'.out.own hg9 hbx9 (by decide) (by decide) (by decide) (by decide) (by decide) (by decide)
        obtain ⟨p0, p1, p2, p3, p4, p5, p6⟩ := BoxAt.cells hbox9
        have hfin9 : Below w.heap.size w w9 := Below.grown hB10 hg9 (Below.size hB10) (fun k hk => by injection hk with hk; omega)
        clear b0 b1 b2 b3 b4 b5 b6
        go_wp2_with fail
        exact bodyPost_ret (v := .tuple #[SV.val V9, .int .i64 0]) (by simp [results, Try.results16, go_sem, SV.val, p0, p1, p2, p3, p4, p5, p6]) rfl (actOk hfin.out (hO9.from_ hle) hfin9)
    · subst ho7
      have hcq' := hcq
      clear hcq
      go_wp2_with fail
      go_region_law (first | refine step_append_at _ rfl (.tmp 97) (.tmp 101) 29 29 rfl (.slice (some ⟨w8.heap.size, 0, none⟩) 0 0) (.slice (some ⟨g3, o3, none⟩) i c3) (by simp [Act.eval, Act.put]) (by simp [Act.eval, Act.put]) hr1'.out ?_ | refine step_append_at _ rfl (.tmp 102) (.tmp 107) 29 29 rfl (.slice A1' i c1') (.slice (some ⟨g3, o3 + (i + 1) * 4, none⟩) (s.moves.length - (i + 1)) (c3 - (i + 1))) (by simp [Act.eval, Act.put]) (by simp [Act.eval, Act.put]) hr2'.out ?_)
      all_goals
        clear y0 y1 x0 x1 x2 x3 x4 x5 x6 hbz0 hbz1
        clear y01 y11 x01 x11 x21 x31 x41 x51 x61 hbz01 hbz11
        clear y02 y12 x02 x12 x22 x32 x42 x52 x62 hbz02 hbz12
        clear b3 f3 q1 q2 q3 q4 q5 q6 q7
        obtain ⟨hx10, hg10⟩ := Bx.set' (V := V5) (V' := { V5 with moves := .slice A2' (s.moves.eraseIdx i).length c2' }) (s' := { mv2 s a d g n with moves := s.moves.eraseIdx i }) (rest := []) (by rw [List.append_nil]; exact hbx2.out.blk) hO2.out boxT 3 (.slice A2' (s.moves.eraseIdx i).length c2') rfl
        have hx10' := Lib.hid (show Bx (w2.setCell ⟨bx, 3, none⟩ (.slice A2' (s.moves.eraseIdx i).length c2')) base bx 31 [] { V5 with moves := .slice A2' (s.moves.eraseIdx i).length c2' } (movedS s i n) by rw [← moved_mv hxm'.out]; exact hx10)
        have h010 := Below.grown h02 hg10 h02.size (fun k hk => by injection hk with hk; omega)
        clear hx10 hg10 hbx2 hO2 hr1' hr2' hcq'
        generalize w2.setCell ⟨bx, 3, none⟩ (.slice A2' (s.moves.eraseIdx i).length c2') = w10 at hx10' h010 ⊢
        have hB10 := hb0.trans (h010.mono hb0.size)
        generalize ({ V5 with moves := .slice A2' (s.moves.eraseIdx i).length c2' } : SV) = V9 at hx10'
        have hbx9 := hR.out _ h010
        obtain ⟨b0, b1, b2, b3, b4, b5, b6⟩ := BoxAt.cells hx10'.out.boxAt
        have hone9 := OwnSt.one hx10'.out.own
        go_wp2_with (refine wpList_store_state rfl (.tmp 8) (.tmp 110) rfl rfl (w.heap.size + 1 + 1) nilSV V9 hbx9 rfl rfl hone9 (fun w9 hbox9 hg9 => ?_))
        have hO9 := OwnSt.keptBy hx10'.out.own hg9 hbx9 (by decide) (by decide) (by decide) (by decide) (by decide) (by decide)
        obtain ⟨p0, p1, p2, p3, p4, p5, p6⟩ := BoxAt.cells hbox9
        have hfin9 : Below w.heap.size w w9 := Below.grown hB10 hg9 (Below.size hB10) (fun k hk => by injection hk with hk; omega)
        clear b0 b1 b2 b3 b4 b5 b6
        go_wp2_with fail
        exact bodyPost_ret (v := .tuple #[SV.val V9, .int .i64 0]) (by simp [results, Try.results16, go_sem, SV.val, p0, p1, p2, p3, p4, p5, p6]) rfl (actOk hfin.out (hO9.from_ hle) hfin9)
  · have hne : (checkState p s != 0) = true := by simpa using hc
    have hfin := Lib.hid (moved_bad (k := k) (n := n) hc)
    clear hc
    have hbx9 := hR.out _ h1
    go_wp2_with (refine wpList_store_state rfl (.tmp 8) (.tmp 18) rfl rfl (w.heap.size + 1 + 1) nilSV nilSV hbx9 rfl rfl rfl (fun w9 hbox9 hg9 => ?_))
    obtain ⟨p0, p1, p2, p3, p4, p5, p6⟩ := BoxAt.cells hbox9
    have hfin9 : Below w.heap.size w w9 := Below.grown hB1 hg9 (Below.size hB1) (fun k hk => by injection hk with hk; omega)
    go_wp2_with fail
    exact bodyPost_ret (v := .tuple #[nilSV.val, .int .i64 (checkState p s)]) (by simp [results, Try.results16, go_sem, SV.val, p0, p1, p2, p3, p4, p5, p6]) rfl (actErr hfin.out hfin9)
end Wh
namespace Wh
open Go Go.RowKit Go.Shelf Go.Proofs
attribute [local go_sem] run_indexAt_letter evL_tmp evL_const evL_func

theorem drop_zero {l : List Hold} {o k b : Int} (hok : holdsOk l = true) (h : keptAt l o k b = 0) : drop l o k b = ([], 0, 4) := by
  unfold drop
  rw [hok, if_neg (by simp), if_pos h]
end Wh
namespace Wh
open Go Go.RowKit Go.Shelf Go.Proofs
attribute [local go_sem] run_indexAt_letter evL_tmp evL_const evL_func

theorem fill_small (p : Plan) (s : State) : small (fill p s).1 = true := by
  by_cases h : checkState p s = 0
  · rw [fill_ok h]
    exact check_small (filled_check (fillS_filled h))
  · rw [fill_bad h]
    show small dState = true
    decide
theorem moved_dead {p : Plan} {s : State} {k n : Int} (h : (moved p s k n).2 ≠ 0) : (moved p s k n).1 = dState := by
  unfold moved at h ⊢
  split
  · rfl
  rename_i h1
  rw [if_neg h1] at h
  split
  · rfl
  rename_i h2
  rw [if_neg h2] at h
  split
  · rfl
  rename_i h3
  rw [if_neg h3] at h
  split
  · rfl
  rename_i h4
  rw [if_neg h4] at h
  exact absurd rfl h
theorem moved_small (p : Plan) (s : State) (k n : Int) : small (moved p s k n).1 = true := by
  by_cases h : (moved p s k n).2 = 0
  · obtain ⟨hc, i, rfl, f, e⟩ := moved_right h
    rw [e]
    exact check_small (moved_check hc f)
  · rw [moved_dead h]
    show small dState = true
    decide

def lackS : State := ⟨[[0, 9], [0, 1], [0, 9]], [], [], [], [0, 19], [0, 0], [0, 0]⟩
def lackV (n : Nat) : SV :=
  ⟨.slice (some ⟨n + 3, 0, none⟩) 3 3, .slice none 0 0, .slice none 0 0, .slice none 0 0, .slice (some ⟨n + 4, 0, none⟩) 2 2, .slice (some ⟨n + 5, 0, none⟩) 2 2, .slice (some ⟨n + 6, 0, none⟩) 2 2,
   [.slice (some ⟨n + 0, 0, none⟩) 2 2, .slice (some ⟨n + 1, 0, none⟩) 2 2, .slice (some ⟨n + 2, 0, none⟩) 2 2], []⟩
def lackO (n : Nat) : List Obj := [
  .cells #[.int .i64 0, .int .i64 9] 3, .cells #[.int .i64 0, .int .i64 1] 3, .cells #[.int .i64 0, .int .i64 9] 3,
  .cells #[.slice (some ⟨n + 0, 0, none⟩) 2 2, .slice (some ⟨n + 1, 0, none⟩) 2 2, .slice (some ⟨n + 2, 0, none⟩) 2 2] 23,
  .cells #[.int .i64 0, .int .i64 19] 3, .cells #[.int .i64 0, .int .i64 0] 3, .cells #[.int .i64 0, .int .i64 0] 3]
theorem lackOwn (w : World) : OwnSt (lay w (lackO w.heap.size)) w.heap.size (lackV w.heap.size) lackS := by
  have H := lay_at w (lackO w.heap.size)
  refine ⟨Own.at_block (by omega) (H 3) rfl (fun _ => rfl) (by simp [lackV]), rfl, fun b hb => ?_, Own.nil, rfl, fun o ho => absurd ho (by simp [lackS]), Own.nil, Own.nil,
    Own.at_block (by omega) (H 4) rfl (fun _ => rfl) (by decide), Own.at_block (by omega) (H 5) rfl (fun _ => rfl) (by decide), Own.at_block (by omega) (H 6) rfl (fun _ => rfl) (by decide), ?_, ?_⟩
  · match b, hb with
    | 0, _ => exact Own.at_block (l := ([0, 9] : List Int)) (by omega) (H 0) rfl (fun _ => rfl) (by decide)
    | 1, _ => exact Own.at_block (l := ([0, 1] : List Int)) (by omega) (H 1) rfl (fun _ => rfl) (by decide)
    | 2, _ => exact Own.at_block (l := ([0, 9] : List Int)) (by omega) (H 2) rfl (fun _ => rfl) (by decide)
    | b + 3, hb => simp [lackS] at hb; omega
  · unfold apartL lackV
    simp [Value.ownBlock]
  · unfold apartL lackV
    simp [Value.ownBlock]

def flA : State := (fill yardP busyS).1
def flB : State := (moved yardP busyS 0 4).1
def flC : State := (fill yardP lackS).1
theorem begF1 : fill yardP busyS = (flA, 0) := Prod.ext rfl (by decide +kernel)
theorem begM1 : moved yardP busyS 0 4 = (flB, 0) := Prod.ext rfl (by decide +kernel)
theorem begM2 : moved yardP busyS 1 0 = (dState, 4) := by decide +kernel
theorem begM3 : moved yardP busyS 0 6 = (dState, 3) := by decide +kernel
theorem begF2 : fill yardP lackS = (flC, 0) := Prod.ext rfl (by decide +kernel)
theorem begFl {s : State} {r : State × Int} (h : fill yardP s = r) (w : World) (v vs : Value) (hp : PlanV w w.heap.size v yardP) (hv : StateV w w.heap.size vs s) :
    Calls Try.prog 13 #[v, vs] w (ActPost r w) := by
  rw [← h]
  exact flFill w v vs yardP s hp hv
theorem begMv {k n : Int} {r : State × Int} (h : moved yardP busyS k n = r) (w : World) (v vs : Value) (hp : PlanV w w.heap.size v yardP) (hv : StateV w w.heap.size vs busyS) :
    Calls Try.prog 14 #[v, vs, .int .i64 k, .int .i64 n] w (ActPost r w) := by
  rw [← h]
  exact flMoved w v vs yardP busyS k n hp hv
theorem flA_moves : flA.moves.length = 1 := by decide +kernel
theorem flB_on : flB.on.length = 3 := by decide +kernel
theorem flB_row0 : (rowAt flB.on 0).length = 2 := by decide +kernel
theorem flB_row1 : (rowAt flB.on 1).length = 2 := by decide +kernel
theorem flB_cell0 : cell flB.on 0 0 = 5 := by decide +kernel
theorem flB_cell1 : cell flB.on 1 0 = 7 := by decide +kernel
theorem flB_moves : flB.moves.length = 0 := by decide +kernel
theorem flC_moves : flC.moves.length = 1 := by decide +kernel
theorem flC_move : moveAt flC.moves 0 = ⟨1, 0, 1, 7⟩ := by decide +kernel

set_option maxHeartbeats 4000000 in
set_option maxRecDepth 100000 in
theorem fillBegun (w : World) : Calls Try.prog 17 #[] w fun e w' => e = .returned (.bool true) ∧ Below w.heap.size w w' := by
  go_enter Try.func17, Try.ntmps17
  go_wp2_with fail
  refine (lYard _).mono ?_
  rintro e W1 ⟨u1, rfl, hu1, hb1⟩
  go_wp2_with fail
  refine (lBusy _).mono ?_
  rintro e W2 ⟨V2, rfl, ho2, hb2⟩
  go_wp2_with fail
  refine (begFl begF1 W2 _ _ (hu1.grow hb2) (ho2.view0 (by decide))).mono ?_
  rintro e W3 ⟨V3, rfl, ho3, hb3⟩
  have hone4 := (ho3).one
  have hnb4 := newBox (W3)
  go_wp2_with (refine wpList_store_state rfl (.tmp 1) (.tmp 15) rfl rfl (World.heap (W3)).size nilSV V3 hnb4 rfl rfl hone4 (fun w4 hbox4 hg4 => ?_); refine Hid.out ?_)
  unfold Hid
  have hbb4 := newBelow hg4
  have hbl4 := hbox4.lt
  clear hone4 hnb4 hg4
  have ha4 := hb1.trans ((hb2.trans ((hb3.trans (hbb4.mono hb3.size)).mono hb2.size)).mono hb1.size)
  have ho4 := Lib.hid (ho3.below hbb4)
  have hbox4' := Lib.hid hbox4
  clear ho3 hbox4 hbb4 hb3 hb2 hb1 hu1 ho2
  go_wp2_with fail
  refine (lYard _).mono ?_
  rintro e W5 ⟨u5, rfl, hu5, hb5⟩
  go_wp2_with fail
  refine (lBusy _).mono ?_
  rintro e W6 ⟨V6, rfl, ho6, hb6⟩
  go_wp2_with fail
  refine (begMv begM1 W6 _ _ (hu5.grow hb6) (ho6.view0 (by decide))).mono ?_
  rintro e W7 ⟨V7, rfl, ho7, hb7⟩
  have hone8 := (ho7).one
  have hnb8 := newBox (W7)
  go_wp2_with (refine wpList_store_state rfl (.tmp 3) (.tmp 21) rfl rfl (World.heap (W7)).size nilSV V7 hnb8 rfl rfl hone8 (fun w8 hbox8 hg8 => ?_); refine Hid.out ?_)
  unfold Hid
  have hbb8 := newBelow hg8
  have hbl8 := hbox8.lt
  clear hone8 hnb8 hg8
  have ha8 := hb5.trans ((hb6.trans ((hb7.trans (hbb8.mono hb7.size)).mono hb6.size)).mono hb5.size)
  have ho8 := Lib.hid (ho7.below hbb8)
  have hbox8' := Lib.hid hbox8
  clear ho7 hbox8 hbb8 hb7 hb6 hb5 hu5 ho6
  go_wp2_with fail
  refine (lYard _).mono ?_
  rintro e W9 ⟨u9, rfl, hu9, hb9⟩
  go_wp2_with fail
  refine (lBusy _).mono ?_
  rintro e W10 ⟨V10, rfl, ho10, hb10⟩
  go_wp2_with fail
  refine (begMv begM2 W10 _ _ (hu9.grow hb10) (ho10.view0 (by decide))).mono ?_
  rintro e W11 ⟨V11, rfl, ho11, hb11⟩
  have hone12 := (ho11).one
  have hnb12 := newBox (W11)
  go_wp2_with (refine wpList_store_state rfl (.tmp 5) (.tmp 27) rfl rfl (World.heap (W11)).size nilSV V11 hnb12 rfl rfl hone12 (fun w12 hbox12 hg12 => ?_); refine Hid.out ?_)
  unfold Hid
  have hbb12 := newBelow hg12
  have hbl12 := hbox12.lt
  clear hone12 hnb12 hg12
  have ha12 := hb9.trans ((hb10.trans ((hb11.trans (hbb12.mono hb11.size)).mono hb10.size)).mono hb9.size)
  have ho12 := Lib.hid (ho11.below hbb12)
  have hbox12' := Lib.hid hbox12
  clear ho11 hbox12 hbb12 hb11 hb10 hb9 hu9 ho10
  go_wp2_with fail
  refine (lYard _).mono ?_
  rintro e W13 ⟨u13, rfl, hu13, hb13⟩
  go_wp2_with fail
  refine (lBusy _).mono ?_
  rintro e W14 ⟨V14, rfl, ho14, hb14⟩
  go_wp2_with fail
  refine (begMv begM3 W14 _ _ (hu13.grow hb14) (ho14.view0 (by decide))).mono ?_
  rintro e W15 ⟨V15, rfl, ho15, hb15⟩
  have hone16 := (ho15).one
  have hnb16 := newBox (W15)
  go_wp2_with (refine wpList_store_state rfl (.tmp 7) (.tmp 33) rfl rfl (World.heap (W15)).size nilSV V15 hnb16 rfl rfl hone16 (fun w16 hbox16 hg16 => ?_); refine Hid.out ?_)
  unfold Hid
  have hbb16 := newBelow hg16
  have hbl16 := hbox16.lt
  clear hone16 hnb16 hg16
  have ha16 := hb13.trans ((hb14.trans ((hb15.trans (hbb16.mono hb15.size)).mono hb14.size)).mono hb13.size)
  have ho16 := Lib.hid (ho15.below hbb16)
  have hbox16' := Lib.hid hbox16
  clear ho15 hbox16 hbb16 hb15 hb14 hb13 hu13 ho14
  go_wp2_with fail
  refine (lYard _).mono ?_
  rintro e W17 ⟨u17, rfl, hu17, hb17⟩
  go_wp2_with fail
  have k1 := lackOwn W17
  have k2 := lay_below W17 (lackO W17.heap.size)
  rw [lay_foldl] at k1 k2
  refine (begFl begF2 _ _ _ (hu17.grow k2) (k1.view0 (by decide))).mono ?_
  rintro e W19 ⟨V19, rfl, ho19, hb19⟩
  have hone20 := (ho19).one
  have hnb20 := newBox (W19)
  go_wp2_with (refine wpList_store_state rfl (.tmp 9) (.tmp 46) rfl rfl (World.heap (W19)).size nilSV V19 hnb20 rfl rfl hone20 (fun w20 hbox20 hg20 => ?_); refine Hid.out ?_)
  unfold Hid
  have hbb20 := newBelow hg20
  have hbl20 := hbox20.lt
  clear hone20 hnb20 hg20
  have ha20 := hb17.trans ((k2.trans ((hb19.trans (hbb20.mono hb19.size)).mono k2.size)).mono hb17.size)
  have h12z := ha16.trans (ha20.mono ha16.size)
  have h8z := ha12.trans (h12z.mono ha12.size)
  have h4z := ha8.trans (h8z.mono ha8.size)
  have hB := ha4.trans (h4z.mono ha4.size)
  have hA := ho4.out.below h4z
  have hBs := ho8.out.below h8z
  have hC := ho19.below hbb20
  have hbA := hbox4'.out.below h4z hbl4
  have hbB := hbox8'.out.below h8z hbl8
  have hbC := hbox20
  clear ho19 hbox20 hbb20 hb19 hb17 hu17 k1 k2 ho4 ho8 ho12 ho16 hbox4' hbox8' hbox12' hbox16' ha20 ha16 ha12 ha8 ha4 h12z h8z h4z
  obtain ⟨_, _, _, pA3, _, _, _⟩ := hbA.cells
  obtain ⟨pB0, _, _, pB3, _, _, _⟩ := hbB.cells
  obtain ⟨_, _, _, pC3, _, _, _⟩ := hbC.cells
  obtain ⟨Aa, ca, va⟩ := hA.moves.isSlice
  rw [flA_moves] at va
  rw [va] at pA3
  obtain ⟨Ab, cb, vb⟩ := hBs.moves.isSlice
  rw [flB_moves] at vb
  rw [vb] at pB3
  obtain ⟨gon, con, cur0, gr, cr, cur, eon, _, _, r0, _, _, _, rc⟩ := hBs.onAt (b := 0) (g := 0) (by rw [flB_on]; decide) (by rw [flB_row0]; decide)
  obtain ⟨gon', con', cur0', gr', cr', cur', eon', _, _, r0', _, _, _, rc'⟩ := hBs.onAt (b := 1) (g := 0) (by rw [flB_on]; decide) (by rw [flB_row1]; decide)
  rw [eon] at eon'
  injection eon' with e1 e2 e3
  injection e1 with e1
  injection e1 with e1
  subst e1
  rw [flB_on] at eon
  rw [flB_row0] at r0
  rw [flB_cell0] at rc
  rw [flB_row1] at r0'
  rw [flB_cell1] at rc'
  rw [eon] at pB0
  obtain ⟨gh, ch, curh, vH, _, _, hcell⟩ := hC.moves.at (fun _ => rfl) (show 0 < flC.moves.length by rw [flC_moves]; decide)
  rw [show flC.moves[0]'(by rw [flC_moves]; decide) = moveAt flC.moves 0 from (moveAt_eq _).symm, flC_move] at hcell
  rw [flC_moves] at vH
  rw [vH] at pC3
  have m0 : w20.cell? ⟨gh, 0, none⟩ = some (.int .i64 1) := hcell 0 _ rfl
  have m1 : w20.cell? ⟨gh, 1, none⟩ = some (.int .i64 0) := hcell 1 _ rfl
  have m2 : w20.cell? ⟨gh, 2, none⟩ = some (.int .i64 1) := hcell 2 _ rfl
  have m3 : w20.cell? ⟨gh, 3, none⟩ = some (.int .i64 7) := hcell 3 _ rfl
  clear hcell vH eon va vb hA hBs hC hbA hbB hbC e2 e3
  go_wp2_with fail
  go_ret
  exact ⟨rfl, hB⟩

set_option maxHeartbeats 4000000 in
set_option maxRecDepth 100000 in
theorem fillTellsWalk (w : World) (v vs : Value) (p : Plan) (s : State) (k n : Int) (hp : PlanV w w.heap.size v p) (hv : StateV w w.heap.size vs s) (hcap : MvCap vs) :
    Calls Try.prog 3 #[v, vs, .int .i64 k, .int .i64 n] w fun e w' => e = .returned (.bool true) ∧ Below w.heap.size w w' := by
  obtain ⟨Ab, cb, As, cs, rfl, hP', hBn, hSz, hlb, hls⟩ := openPl hp
  obtain ⟨A0, c0, A1, c1, A2, c2, A3, c3, A4, c4, A5, c5, A6, c6, rfl, hV, hN, hO, hH, hM, hI, hU, hX, hl0, hl1, hl2, hl3, hl4, hl5, hl6⟩ := openOne hv
  go_enter Try.func3, Try.ntmps3
  go_wp2_with fail
  obtain ⟨W0, hW0, hb0, hsz0, hsz1, hsE, hK⟩ := boxesTwo w p s Ab cb As cs A0 c0 A1 c1 A2 c2 A3 c3 A4 c4 A5 c5 A6 c6
  rw [hW0]
  clear hW0
  obtain ⟨⟨y0, y1⟩, x0, x1, x2, x3, x4, x5, x6, hbz0, hbz1⟩ := hK.out W0 (Below.refl W0.heap.size W0)
  go_wp2_with fail
  clear y0 y1 x0 x1 x2 x3 x4 x5 x6 hbz0 hbz1
  refine (flFill _ _ _ p s (hP'.out _ hb0) (hV.out _ hb0)).mono ?_
  rintro e W1 ⟨V1, rfl, ho1, hb1⟩
  have hone2 := (ho1).one
  have hnb2 := newBox (W1)
  go_wp2_with (refine wpList_store_state rfl (.tmp 9) (.tmp 21) rfl rfl (World.heap (W1)).size nilSV V1 hnb2 rfl rfl hone2 (fun w2 hbox2 hg2 => ?_); refine Hid.out ?_)
  unfold Hid
  have hbb2 := newBelow hg2
  have hbl2 := hbox2.lt
  clear hone2 hnb2 hg2
  have h02 := hb1.trans (hbb2.mono hb1.size)
  have hB2 := hb0.trans (h02.mono hb0.size)
  have hv2 := Lib.hid ((ho1.below hbb2).view0 (fill_small p s))
  have hbox2' := Lib.hid hbox2
  clear hbox2 ho1 hb1 hbb2
  obtain ⟨⟨y0, y1⟩, x0, x1, x2, x3, x4, x5, x6, hbz0, hbz1⟩ := hK.out w2 (h02)
  go_wp2_with fail
  clear y0 y1 x0 x1 x2 x3 x4 x5 x6 hbz0 hbz1
  refine (flMoved _ _ _ p s k n (hP'.out _ hB2) (hV.out _ hB2)).mono ?_
  rintro e W3 ⟨V3, rfl, ho3, hb3⟩
  have hone4 := (ho3).one
  have hnb4 := newBox (W3)
  go_wp2_with (refine wpList_store_state rfl (.tmp 11) (.tmp 29) rfl rfl (World.heap (W3)).size nilSV V3 hnb4 rfl rfl hone4 (fun w4 hbox4 hg4 => ?_); refine Hid.out ?_)
  unfold Hid
  have hbb4 := newBelow hg4
  have hbl4 := hbox4.lt
  clear hone4 hnb4 hg4
  have h24 := hb3.trans (hbb4.mono hb3.size)
  have h04 := h02.trans (h24.mono h02.size)
  have hB4 := hb0.trans (h04.mono hb0.size)
  have hv4 := Lib.hid ((ho3.below hbb4).view0 (moved_small p s k n))
  have hbox4' := Lib.hid hbox4
  clear hbox4 ho3 hb3 hbb4
  obtain ⟨⟨y0, y1⟩, x0, x1, x2, x3, x4, x5, x6, hbz0, hbz1⟩ := hK.out w4 (h04)
  go_wp2_with fail
  clear y0 y1 x0 x1 x2 x3 x4 x5 x6 hbz0 hbz1
  refine (rFillOf _ _ _ p s (hP'.out _ hB4) (hV.out _ hB4)).mono ?_
  rintro e W5 ⟨V5, rfl, ho5, hb5⟩
  have hone6 := (ho5).one
  have hnb6 := newBox (W5)
  go_wp2_with (refine wpList_store_state rfl (.tmp 13) (.tmp 35) rfl rfl (World.heap (W5)).size nilSV V5 hnb6 rfl rfl hone6 (fun w6 hbox6 hg6 => ?_); refine Hid.out ?_)
  unfold Hid
  have hbb6 := newBelow hg6
  have hbl6 := hbox6.lt
  clear hone6 hnb6 hg6
  have h46 := hb5.trans (hbb6.mono hb5.size)
  have h06 := h04.trans (h46.mono h04.size)
  have hB6 := hb0.trans (h06.mono hb0.size)
  have hv6 := Lib.hid ((ho5.below hbb6).view0 (fill_small p s))
  have hbox6' := Lib.hid hbox6
  clear hbox6 ho5 hb5 hbb6
  obtain ⟨⟨y0, y1⟩, x0, x1, x2, x3, x4, x5, x6, hbz0, hbz1⟩ := hK.out w6 (h06)
  go_wp2_with fail
  clear y0 y1 x0 x1 x2 x3 x4 x5 x6 hbz0 hbz1
  refine (rMovedOf _ _ _ p s k n (hP'.out _ hB6) (hV.out _ hB6) hcap).mono ?_
  rintro e W7 ⟨V7, rfl, ho7, hb7⟩
  have hone8 := (ho7).one
  have hnb8 := newBox (W7)
  go_wp2_with (refine wpList_store_state rfl (.tmp 15) (.tmp 43) rfl rfl (World.heap (W7)).size nilSV V7 hnb8 rfl rfl hone8 (fun w8 hbox8 hg8 => ?_); refine Hid.out ?_)
  unfold Hid
  have hbb8 := newBelow hg8
  have hbl8 := hbox8.lt
  clear hone8 hnb8 hg8
  have h68 := hb7.trans (hbb8.mono hb7.size)
  have h08 := h06.trans (h68.mono h06.size)
  have hB8 := hb0.trans (h08.mono hb0.size)
  have hv8 := Lib.hid ((ho7.below hbb8).view0 (moved_small p s k n))
  have hbox8' := Lib.hid hbox8
  clear hbox8 ho7 hb7 hbb8
  go_wp2_with fail
  refine (fillBegun _).mono ?_
  rintro e W9 ⟨rfl, h9⟩
  have h89 := h9
  have h69 := h68.trans (h89.mono h68.size)
  have h49 := h46.trans (h69.mono h46.size)
  have h29 := h24.trans (h49.mono h24.size)
  have hB9 := hB8.trans (h9.mono hB8.size)
  obtain ⟨a0, a1, a2, a3, a4, a5, a6⟩ := (hbox2'.out.below h29 hbl2).cells
  obtain ⟨b0, b1, b2, b3, b4, b5, b6⟩ := (hbox6'.out.below h69 hbl6).cells
  have hx1 := Lib.hid (hv2.out.grow h29)
  have hx2 := Lib.hid (hv4.out.grow h49)
  have hx3 := Lib.hid (hv6.out.grow h69)
  have hx4 := Lib.hid (hv8.out.grow h89)
  have hy2 := Lib.hid (hbox4'.out.below h49 hbl4)
  have hy4 := Lib.hid (hbox8'.out.below h89 hbl8)
  have hl2 := Nat.lt_of_lt_of_le hbl4 h49.size
  have hl4 := Nat.lt_of_lt_of_le hbl8 h89.size
  clear hv2 hv4 hv6 hv8 hbox2' hbox4' hbox6' hbox8' h29 h49 h69 h89 h68 h46 h24 h02 h04 h06 h08
  go_wp2_with fail
  clear a0 a1 a2 a3 a4 a5 a6 b0 b1 b2 b3 b4 b5 b6
  refine (rSameStates _ _ _ _ hx1.out hx3.out).mono ?_
  rintro e W10 ⟨rfl, h10⟩
  obtain ⟨a0, a1, a2, a3, a4, a5, a6⟩ := (hy2.out.below h10 hl2).cells
  obtain ⟨b0, b1, b2, b3, b4, b5, b6⟩ := (hy4.out.below h10 hl4).cells
  have hx2' := Lib.hid (hx2.out.grow h10)
  have hx4' := Lib.hid (hx4.out.grow h10)
  have hB10 := hB9.trans (h10.mono hB9.size)
  go_wp2_with fail
  clear a0 a1 a2 a3 a4 a5 a6 b0 b1 b2 b3 b4 b5 b6
  refine (rSameStates _ _ _ _ hx2'.out hx4'.out).mono ?_
  rintro e W11 ⟨rfl, h11⟩
  go_wp2_with fail
  go_ret
  exact ⟨rfl, hB10.trans (h11.mono hB10.size)⟩
end Wh
