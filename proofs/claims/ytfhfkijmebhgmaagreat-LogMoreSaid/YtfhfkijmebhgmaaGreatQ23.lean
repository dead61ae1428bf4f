/- Texts of the claim, joined: PickB, PlainM. -/
import Derived.Test.YtfhfkijmebhgmaaGreatQ22
import Derived.Test.YtfhfkijmebhgmaaGreatQ15
import Derived.Test.YtfhfkijmebhgmaaGreatQ10
namespace Wh
open Go Go.RowKit Go.Shelf Go.Proofs
attribute [local go_sem] run_indexAt_letter evL_tmp evL_const evL_func

theorem drop_zero {l : List Hold} {o k b : Int} (hok : holdsOk l = true) (h : keptAt l o k b = 0) : drop l o k b = ([], 0, 4) := by
  unfold drop
  rw [hok, if_neg (by simp), if_pos h]
theorem drop_some {l : List Hold} {o k b : Int} (hok : holdsOk l = true) (h : keptAt l o k b ≠ 0) : drop l o k b = (withHold l ⟨o, k, b, 0⟩, keptAt l o k b, 0) := by
  unfold drop
  rw [hok, if_neg (by simp), if_neg h]
theorem hdDropAt {l x : List Hold} {o ln b m c : Int} (h : drop l o ln b = (x, m, c)) (w : World) (v : Value) (hv : Sl cHold w w.heap.size v l) :
    Calls Tryz.prog 101 #[v, .int .i64 o, .int .i64 ln, .int .i64 b] w fun e w' => ∃ u, e = .returned (.tuple #[u, .int .i64 m, .int .i64 c]) ∧ Own cHold 4 46 w' w.heap.size u x ∧ Below w.heap.size w w' := by
  have := hdDrop w v l o ln b hv
  unfold DropPost at this
  rw [h] at this
  exact this
theorem setLine_twice (s : State) (i j : Nat) (y z : Line) (hi : i < s.orders.length) : (s.setLine i j y).setLine i j z = s.setLine i j z := by
  unfold State.setLine
  simp only
  have h : State.order { s with orders := s.orders.set i { s.order i with lines := (s.order i).lines.set j y } } i = { s.order i with lines := (s.order i).lines.set j y } := by
    unfold State.order
    rw [orderAt_set hi, if_pos rfl]
  rw [h]
  simp only [List.set_set]
theorem picked_steps {s : State} {i j c : Nat} {n held : Int} (hi : i < s.orders.length) (y : Line) :
    ((preS s i j c n).setLine i j y).setLine i j { s.line i j with got := (s.line i j).got + n, back := (s.line i j).back + (held - n) } = picked s i j c held n := by
  rw [setLine_twice (preS s i j c n) i j _ _ hi, picked_eq, show (s.line i j).back + (held - n) = (s.line i j).back + held - n by omega]
set_option maxHeartbeats 1000000 in
/-- Pick's closure: a line that lacks some. -/
theorem pkLacks (x : Line) (W : World) : Calls Tryz.prog 102 #[vLine x] W fun e W' => e = .returned (.bool (decide (x.got < x.want))) ∧ Below W.heap.size W W' := by
  have hb0 : Below W.heap.size W (W.alloc (.cells #[.int .i64 (x).good, .int .i64 (x).want, .int .i64 (x).got, .int .i64 (x).back] 44)) := (Below.refl _ _).alloc (Nat.le_refl _) _
  unfold vLine
  go_enter Tryz.func102, Tryz.ntmps102
  go_wp2_with fail
  go_ret
  exact ⟨rfl, hb0⟩
theorem entersPkLacks : Enters Tryz.prog 102 := enters_of Tryz.func102 (by kernel_rfl) rfl

set_option maxHeartbeats 8000000 in
set_option maxRecDepth 100000 in
theorem pkPick (w : World) (v vs : Value) (p : Plan) (s : State) (o k b n : Int) (hp : PlanV w w.heap.size v p) (hv : StateV w w.heap.size vs s) :
    Calls Tryz.prog 48 #[v, vs, .int .i64 o, .int .i64 k, .int .i64 b, .int .i64 n] w (ActPost (pick p s o k b n) w) := by
  obtain ⟨Ab, cb, As, cs, rfl, hP', hBn, hSz, hlb, hls⟩ := openPl hp
  obtain ⟨A0, c0, A1, c1, A2, c2, A3, c3, A4, c4, A5, c5, A6, c6, rfl, hV, hN, hO, hH, hM, hI, hU, hX, hl0, hl1, hl2, hl3, hl4, hl5, hl6⟩ := openOne hv
  go_enter Tryz.func48, Tryz.ntmps48
  go_wp2_with fail
  obtain ⟨W0, hW0, hb0, hsz0, hsz1, hsE, hK, hR⟩ := boxesAct w p s Ab cb As cs A0 c0 A1 c1 A2 c2 A3 c3 A4 c4 A5 c5 A6 c6
  rw [hW0]
  clear hW0
  obtain ⟨⟨y0, y1⟩, x0, x1, x2, x3, x4, x5, x6, hbz0, hbz1⟩ := hK.out W0 (Below.refl W0.heap.size W0)
  go_wp2_with fail
  clear y0 y1 x0 x1 x2 x3 x4 x5 x6 hbz0 hbz1
  refine (sCheck _ _ _ p s (hP'.out _ hb0) (hV.out _ hb0)).mono ?_
  rintro e W1 ⟨rfl, h1⟩
  have hB1 := hb0.trans (h1.mono hb0.size)
  obtain ⟨⟨y0, y1⟩, x0, x1, x2, x3, x4, x5, x6, hbz0, hbz1⟩ := hK.out W1 (h1)
  by_cases hc : checkState p s = 0
  · have hc' := Lib.hid hc
    have hsn := Lib.hid (checkState_zero.1 hc).1
    rw [hc]
    clear hc
    by_cases hk0 : keptAt s.holds o k b = 0
    · have hfin := Lib.hid (pick_none (n := n) hc'.out hk0)
      have hdr := Lib.hid (drop_zero hsn.out.holds hk0)
      clear hk0
      go_wp2_with fail
      clear y0 y1 x0 x1 x2 x3 x4 x5 x6 hbz0 hbz1
      refine (hdDropAt hdr.out _ _ (hH.out _ hB1)).mono ?_
      rintro e W2 ⟨u, rfl, hu, h2⟩
      have h02 := h1.trans (h2.mono h1.size)
      have hB2 := hb0.trans (h02.mono hb0.size)
      have hbx9 := hR.out _ h02
      go_wp2_with (refine wpList_store_state rfl (.tmp 12) (.tmp 40) rfl rfl (w.heap.size + 1 + 1) nilSV nilSV hbx9 rfl rfl rfl (fun w9 hbox9 hg9 => ?_))
      obtain ⟨p0, p1, p2, p3, p4, p5, p6⟩ := BoxAt.cells hbox9
      have hfin9 : Below w.heap.size w w9 := Below.grown hB2 hg9 (Below.size hB2) (fun k hk => by injection hk with hk; omega)
      go_wp2_with fail
      exact bodyPost_ret (v := .tuple #[nilSV.val, .int .i64 4]) (by simp [results, Tryz.results48, go_sem, SV.val, p0, p1, p2, p3, p4, p5, p6]) rfl (actErr hfin.out hfin9)
    have hdr := Lib.hid (drop_some hsn.out.holds hk0)
    have hk0' := Lib.hid hk0
    have hpos := keptAt_range (holdsOk_iff.1 hsn.out.holds).1 (holdsOk_iff.1 hsn.out.holds).2 o k b
    clear hk0
    go_wp2_with fail
    clear y0 y1 x0 x1 x2 x3 x4 x5 x6 hbz0 hbz1
    refine (hdDropAt hdr.out _ _ (hH.out _ hB1)).mono ?_
    rintro e W2 ⟨u, rfl, hu, h2⟩
    have h02 := h1.trans (h2.mono h1.size)
    have hB2 := hb0.trans (h02.mono hb0.size)
    have hle : w.heap.size ≤ W1.heap.size := hB1.size
    obtain ⟨A7, c7, rfl⟩ := hu.isSlice
    have hu2 := Lib.hid hu
    have hle0 : W0.heap.size ≤ W1.heap.size := h1.size
    have hle2 : W1.heap.size ≤ W2.heap.size := h2.size
    clear hu h2 h1 hB1
    obtain ⟨⟨y0, y1⟩, x0, x1, x2, x3, x4, x5, x6, hbz0, hbz1⟩ := hK.out W2 (h02)
    by_cases g1 : n < 0
    · have hfin := Lib.hid (pick_range hc'.out hk0'.out (.inl g1))
      clear hu2
      have hbx9 := hR.out _ h02
      go_wp2_with (refine wpList_store_state rfl (.tmp 12) (.tmp 49) rfl rfl (w.heap.size + 1 + 1) nilSV nilSV hbx9 rfl rfl rfl (fun w9 hbox9 hg9 => ?_))
      obtain ⟨p0, p1, p2, p3, p4, p5, p6⟩ := BoxAt.cells hbox9
      have hfin9 : Below w.heap.size w w9 := Below.grown hB2 hg9 (Below.size hB2) (fun k hk => by injection hk with hk; omega)
      go_wp2_with fail
      exact bodyPost_ret (v := .tuple #[nilSV.val, .int .i64 3]) (by simp [results, Tryz.results48, go_sem, SV.val, p0, p1, p2, p3, p4, p5, p6]) rfl (actErr hfin.out hfin9)
    by_cases g2 : keptAt s.holds o k b < n
    · have hfin := Lib.hid (pick_range hc'.out hk0'.out (.inr g2))
      clear hu2
      have hbx9 := hR.out _ h02
      go_wp2_with (refine wpList_store_state rfl (.tmp 12) (.tmp 49) rfl rfl (w.heap.size + 1 + 1) nilSV nilSV hbx9 rfl rfl rfl (fun w9 hbox9 hg9 => ?_))
      obtain ⟨p0, p1, p2, p3, p4, p5, p6⟩ := BoxAt.cells hbox9
      have hfin9 : Below w.heap.size w w9 := Below.grown hB2 hg9 (Below.size hB2) (fun k hk => by injection hk with hk; omega)
      go_wp2_with fail
      exact bodyPost_ret (v := .tuple #[nilSV.val, .int .i64 3]) (by simp [results, Tryz.results48, go_sem, SV.val, p0, p1, p2, p3, p4, p5, p6]) rfl (actErr hfin.out hfin9)
    obtain ⟨i, j, c, rfl, rfl, rfl, hi, hj, hcb, hh1, hh2, hpk⟩ := pick_in hc'.out hk0'.out (n := n) ⟨by omega, by omega⟩
    have hpk' := Lib.hid hpk
    have hn0 : 0 ≤ n ∧ n ≤ keptAt s.holds i j c := ⟨by omega, by omega⟩
    clear hpk hk0' hdr hpos
    go_wp2_with fail
    clear y0 y1 x0 x1 x2 x3 x4 x5 x6 hbz0 hbz1
    refine (sOwn _ _ p s (hV.out _ hB2) hsn.out).mono ?_
    rintro e W5 ⟨_, rfl, ⟨V5, rfl, ho5⟩, h5⟩
    have hone6 := (ho5).one
    have hnb6 := newBox (W5)
    go_wp2_with (refine wpList_store_state rfl (.tmp 18) (.tmp 51) rfl rfl (World.heap (W5)).size nilSV V5 hnb6 rfl rfl hone6 (fun w6 hbox6 hg6 => ?_); refine Hid.out ?_)
    unfold Hid
    have hbb6 := newBelow hg6
    have hbl6 := hbox6.lt
    clear hone6 hnb6 hg6
    have h26 := h5.trans (hbb6.mono h5.size)
    have hx6 := Lib.hid ((Bx.of hbox6 (ho5.below hbb6)).from_ hle2)
    have hu6 := Lib.hid (hu2.out.below h26)
    have h06 := h02.trans (h26.mono h02.size)
    have hle5 : W1.heap.size ≤ W5.heap.size := Nat.le_trans hle2 h5.size
    clear hbox6 ho5 hbb6 h5 hbl6 h02 hB2 h26 hu2 hle2
    generalize W1.heap.size = base at hx6 hle hle0 hle5 hu6
    generalize W5.heap.size = bx at hx6 hle5 ⊢
    have hg0 := (hsn.out.line hi hj).1
    obtain ⟨g, hg⟩ : ∃ g : Nat, (s.line i j).good = (g : Int) := ⟨(s.line i j).good.toNat, by omega⟩
    have hgt : (s.line i j).good.toNat = g := by omega
    have hgp : g < p.sizes.length := by omega
    have hgo : g < s.out.length := by rw [hsn.out.out.1]; exact hgp
    have hgoi : (g : Int) < (s.out.length : Int) := by omega
    have o1 := hsn.out.out.2 hgp
    have hwo : IntKind.i64.wrap (intAt s.out g + n) = intAt s.out g + n := IntWalk.i64_in _ (by omega)
    have hi' : (i : Int) < s.orders.length := by omega
    have hj' : (j : Int) < ((s.order i).lines.length : Int) := by omega
    rw [hgt] at hpk'
    obtain ⟨go, co, curo, eo, hgo1, hblko, z0, z1⟩ := hx6.out.own.orderAt (o := i) hi
    obtain ⟨gl, cl, curl, e1, hgl, hblk, f0, f1, f2, f3⟩ := hx6.out.own.lineAt (o := i) (k := j) hi hj
    obtain ⟨gu, cu, curu, eu, hgu, hbu, ru⟩ := OwnSt.intAtOwn hx6.out.own.out (g := g) hgo
    obtain ⟨c0, c1, c2, c3, c4, c5, c6⟩ := hx6.out.cells
    rw [eo] at c1
    rw [e1] at z1
    rw [eu] at c5
    rw [hg] at f0
    have e1' := Lib.hid e1
    have eo' := Lib.hid eo
    have eu' := Lib.hid eu
    clear e1 eo eu hblk hblko hbu z0 f1 f2 f3
    by_cases hm : 1048576 < intAt s.out g + n
    · have hfin := Lib.hid (show pick p s i j c n = (dState, 2) by rw [hpk'.out, if_pos hm])
      go_wp2_with fail
      go_quiet (fail)
      have h0d := below_drewN h06 nq
      have hBd := hb0.trans (h0d.mono hb0.size)
      clear c0 c1 c2 c3 c4 c5 c6 z1 f0 ru hx6 hu6
      generalize w6.drewN nq = w7 at h0d hBd ⊢
      have hbx9 := hR.out _ h0d
      go_wp2_with (refine wpList_store_state rfl (.tmp 12) (.tmp 73) rfl rfl (w.heap.size + 1 + 1) nilSV nilSV hbx9 rfl rfl rfl (fun w9 hbox9 hg9 => ?_))
      obtain ⟨p0, p1, p2, p3, p4, p5, p6⟩ := BoxAt.cells hbox9
      have hfin9 : Below w.heap.size w w9 := Below.grown hBd hg9 (Below.size hBd) (fun k hk => by injection hk with hk; omega)
      go_wp2_with fail
      exact bodyPost_ret (v := .tuple #[nilSV.val, .int .i64 2]) (by simp [results, Tryz.results48, go_sem, SV.val, p0, p1, p2, p3, p4, p5, p6]) rfl (actErr hfin.out hfin9)
    have hmd := decide_eq_false hm
    have hfin := Lib.hid (show pick p s i j c n = (pickS p s i j c n, 0) by rw [hpk'.out, if_neg hm])
    have hF := Lib.hid (show Picks p s i j c n from ⟨hi, hj, hcb, hh1, hn0.1, hn0.2, by rw [hgt]; omega⟩)
    go_wp2_with fail
    go_quiet (fail)
    have hd7 := below_drewN (Below.refl w6.heap.size w6) nq
    have hx7 := Lib.hid (hx6.out.below hd7)
    have hu7 := Lib.hid (hu6.out.below hd7)
    have h07 := h06.trans (hd7.mono h06.size)
    clear c0 c1 c2 c3 c4 c5 c6 z1 f0 ru hx6 hu6 hd7 h06 hpk' hmd hm
    generalize w6.drewN nq = w7 at hx7 hu7 h07 ⊢
    go_wp2_with (refine wp_st_holds rfl (.tmp 75) (.tmp 74) rfl rfl A7 _ c7 _ hx7.out rfl rfl hu7.out (fun w8 hx8 hst8 => ?_); refine Hid.out ?_)
    unfold Hid
    have h08 := h07.trans (hst8.below (B := W0.heap.size) (fun q hq => by omega) h07.size)
    have hx8' := Lib.hid hx8
    have e19 := Lib.hid (show ({ V5 with holds := .slice A7 (withHold s.holds ⟨i, j, c, 0⟩).length c7 } : SV).line i = .slice (some ⟨gl, 0, none⟩) (s.order i).lines.length cl from e1'.out)
    have eo9 := Lib.hid (show ({ V5 with holds := .slice A7 (withHold s.holds ⟨i, j, c, 0⟩).length c7 } : SV).orders = .slice (some ⟨go, 0, none⟩) s.orders.length co from eo'.out)
    clear hx8 hst8 hx7 hu7 h07 e1' eo' eu'
    generalize ({ V5 with holds := .slice A7 (withHold s.holds ⟨i, j, c, 0⟩).length c7 } : SV) = V9 at hx8' e19 eo9
    have hco : c < s.on.length := by rw [hsn.out.onLen]; exact hcb
    have hci : (c : Int) < (s.on.length : Int) := by omega
    have hgr : g < (rowAt s.on c).length := by rw [hsn.out.rowLen hcb]; exact hgp
    have hgri : (g : Int) < ((rowAt s.on c).length : Int) := by omega
    have hcel := hsn.out.cell hcb hgp
    have hw1 : IntKind.i64.wrap (cell s.on c g - n) = cell s.on c g - n := IntWalk.i64_in _ (by omega)
    obtain ⟨gon, con, cur0, gr, cr, cur, eon, hgon, hbn0, r0, er, hgrb, hbr, rc⟩ := hx8'.out.own.onAt hco hgr
    change w8.cell? _ = some (.int .i64 (cell s.on c g)) at rc
    change w8.cell? _ = some (.slice _ (rowAt s.on c).length _) at r0
    change V9.on = .slice _ s.on.length _ at eon
    obtain ⟨_, f0, _⟩ := hx8'.out.own.lineCells (o := i) (k := j) hi hj e19.out
    change w8.cell? _ = some (.int .i64 (s.line i j).good) at f0
    rw [hg] at f0
    obtain ⟨c0, _⟩ := hx8'.out.cells
    rw [eon] at c0
    have er' := Lib.hid er
    clear eon er hbn0 hbr
    go_wp2_with fail
    go_still_tail 14, (by kernel_rfl)
    change wpList _ _ _ _ _ w8.drew
    refine wp_st_on rfl (.tmp 89) (.tmp 88) rfl rfl (i := c) (g := g) (q := cell s.on c g - n) hx8'.out.drew hco hgr er'.out rfl rfl (fun w9 hx9 hst9 => ?_)
    refine wpList_nil ?_
    have h09 := h08.drew.trans (hst9.below (B := W0.heap.size) (fun q hq => by omega) h08.drew.size)
    have hx9' := Lib.hid (show Bx w9 base bx 31 [] V9 { pk1 s c g n with holds := withHold s.holds ⟨i, j, c, 0⟩ } from hx9)
    clear hx9 hst9 c0 f0 r0 rc hw1 hx8' h08 er'
    obtain ⟨gu2, cu2, curu2, eu2, hgu2, hbu2, ru⟩ := OwnSt.intAtOwn hx9'.out.own.out (g := g) hgo
    change w9.cell? _ = some (.int .i64 (intAt s.out g)) at ru
    change V9.out = .slice _ s.out.length _ at eu2
    obtain ⟨_, f0, _⟩ := hx9'.out.own.lineCells (o := i) (k := j) hi hj e19.out
    change w9.cell? _ = some (.int .i64 (s.line i j).good) at f0
    rw [hg] at f0
    obtain ⟨_, _, _, _, _, c5, _⟩ := hx9'.out.cells
    rw [eu2] at c5
    have eu' := Lib.hid eu2
    clear eu2 hbu2
    go_wp2_with fail
    go_still_tail 11, (by kernel_rfl)
    change wpList _ _ _ _ _ w9.drew
    refine wp_st_out rfl (.tmp 100) (.tmp 99) rfl rfl (g := g) (q := intAt s.out g + n) hx9'.out.drew hgo eu'.out rfl rfl (fun w10 hx10 hst10 => ?_)
    refine wpList_nil ?_
    have h010 := h09.drew.trans (hst10.below (B := W0.heap.size) (fun q hq => by omega) h09.drew.size)
    have hx10' := Lib.hid (show Bx w10 base bx 31 [] V9 (preS s i j c n) by rw [← pk_pre hgt]; exact hx10)
    clear hx10 hst10 c5 f0 ru hx9' h09 eu'
    have hln := (hsn.out.line hi hj).2
    obtain ⟨gd, wt, gt, bk, hxl⟩ : ∃ gd wt gt bk, s.line i j = ⟨gd, wt, gt, bk⟩ := ⟨_, _, _, _, rfl⟩
    rw [hxl] at hln hg
    have hxl' := Lib.hid hxl
    simp only at hln hg
    subst hg
    obtain ⟨held, hheld⟩ : ∃ x, keptAt s.holds i j c = x := ⟨_, rfl⟩
    rw [hheld] at hh1 hh2 hn0
    have hheld' := Lib.hid hheld
    have hw2 : IntKind.i64.wrap (gt + n) = gt + n := IntWalk.i64_in _ (by omega)
    have hw5 : IntKind.i64.wrap (held - n) = held - n := IntWalk.i64_in _ (by omega)
    have hw4 : IntKind.i64.wrap (bk + (held - n)) = bk + (held - n) := IntWalk.i64_in _ (by omega)
    obtain ⟨_, f0, f1, f2, f3⟩ := hx10'.out.own.lineCells (o := i) (k := j) hi hj e19.out
    change w10.cell? _ = some (.int .i64 (s.line i j).got) at f2
    rw [hxl] at f2
    rw [hheld]
    clear hheld f0 f1 f3 hxl
    go_wp2_with (refine wp_st_line rfl (.tmp 108) (.tmp 106) rfl rfl (i := i) (k := j) (j := 2) (y := ⟨g, wt, gt + n, bk⟩) hx10'.out hi hj e19.out (by decide) (show cLine ⟨g, wt, gt + n, bk⟩ = (cLine (s.line i j)).set 2 (.int .i64 (gt + n)) by rw [hxl'.out]; rfl) rfl rfl (fun w11 hx11 hst11 => ?_); refine Hid.out ?_)
    unfold Hid
    have h011 := h010.trans (hst11.below (B := W0.heap.size) (fun q hq => by omega) h010.size)
    have hx11' := Lib.hid hx11
    have hl11 := Lib.hid (show ((preS s i j c n).setLine i j ⟨g, wt, gt + n, bk⟩).line i j = ⟨g, wt, gt + n, bk⟩ by rw [line_setLine (s := preS s i j c n) hi hj, if_pos ⟨rfl, rfl⟩])
    have hi11 : i < ((preS s i j c n).setLine i j ⟨g, wt, gt + n, bk⟩).orders.length := by rw [orders_setLine]; exact hi
    have hj11 : j < (((preS s i j c n).setLine i j ⟨g, wt, gt + n, bk⟩).order i).lines.length := by rw [lines_setLine (s := preS s i j c n) hi]; exact hj
    clear hx11 hst11 f2 hx10' h010 hw2
    obtain ⟨_, f0, f1, f2, f3⟩ := hx11'.out.own.lineCells hi11 hj11 e19.out
    rw [hl11.out] at f3
    clear f0 f1 f2
    go_wp2_with (refine wp_st_line rfl (.tmp 118) (.tmp 116) rfl rfl (i := i) (k := j) (j := 3) (y := ⟨g, wt, gt + n, bk + (held - n)⟩) hx11'.out hi11 hj11 e19.out (by decide) (by rw [hl11.out]; rfl) rfl rfl (fun w12 hx12 hst12 => ?_); refine Hid.out ?_)
    unfold Hid
    have h012 := h011.trans (hst12.below (B := W0.heap.size) (fun q hq => by omega) h011.size)
    have hx12' := Lib.hid (show Bx w12 base bx 31 [] V9 (picked s i j c held n) by rw [← picked_steps (s := s) (n := n) (held := held) (c := c) (j := j) hi ⟨g, wt, gt + n, bk⟩, hxl'.out]; exact hx12)
    clear hx12 hst12 f3 hx11' h011 hw4 hl11 hi11 hj11
    have hr12 := Lib.hid (show Right p (picked s i j c held n) by rw [← hheld'.out]; exact picked_right (right_of_check hc'.out) hF.out)
    have hm12 := Lib.hid (show May (picked s i j c held n) i j (held - n) by rw [← hheld'.out]; exact picked_may (right_of_check hc'.out) hF.out)
    have hB12 := hb0.trans (h012.mono hb0.size)
    obtain ⟨⟨y0, y1⟩, x0, x1, x2, x3, x4, x5, x6, hbz0, hbz1⟩ := hK.out w12 (h012)
    have hbs : base ≤ w12.heap.size := Nat.le_trans hle5 (Nat.le_of_lt hx12'.out.lt)
    go_wp2_with fail
    clear y0 y1 x0 x1 x2 x3 x4 x5 x6 hbz0 hbz1
    clear hw5
    refine (alHold _ _ p _ i j (held - n) c (hP'.out _ hB12) hr12.out hm12.out hx12'.out hbs).mono ?_
    rintro e w14 ⟨rfl, V7, hsb7, hx14, hst14⟩
    have hge : ∀ q, (q = bx ∨ (V9.line i).ownBlock = some q) → base ≤ q := fun q hq => by
      rcases hq with rfl | hq
      · exact hle5
      · exact ((hx12'.out.own.line i (show i < (picked s i j c held n).orders.length by rw [picked_orders]; exact hi)).size q hq).1
    have h014 := h012.trans (hst14.below (B := W0.heap.size) (fun q hq => Nat.le_trans hle0 (hge q hq)) h012.size)
    have hx14' := Lib.hid (show Bx w14 base bx 31 [] V7 (pickT p s i j c n) by unfold pickT; rw [hheld'.out]; exact hx14)
    have eo7 := Lib.hid (show V7.orders = .slice (some ⟨go, 0, none⟩) s.orders.length co by rw [hsb7]; exact eo9.out)
    clear hx14 hst14 hsb7 hge hx12' h012 hB12 hr12 hm12 eo9 e19
    have hTh := (pickT_held (right_of_check hc'.out) hF.out).1
    have hTi : i < (pickT p s i j c n).orders.length := by rw [hTh.orders, picked_orders]; exact hi
    have hTs := Lib.hid hTh.right.sane
    have hfin2 := Lib.hid (show pick p s i j c n = (close (pickT p s i j c n) i, 0) from hfin.out)
    clear hTh hF hfin
    generalize pickT p s i j c n = T at hx14' hTi hTs hfin2
    have l13 := hTs.out.lines3 hTi
    obtain ⟨_, _, _, z1⟩ := hx14'.out.own.orderCells hTi eo7.out
    have hsl := Lib.hid ((hx14'.out.own.line i hTi).sl (by omega))
    go_wp2_with fail
    clear z1
    refine (containsFuncLine _ _ (T.order i).lines 102 #[] (fun x => decide (x.got < x.want)) entersPkLacks hsl.out (fun j _ W hW => pkLacks _ W)).mono ?_
    rintro e W15 ⟨rfl, h15⟩
    rw [allGot_any hTs.out hTi]
    have hx := Lib.hid (hx14'.out.below h15)
    have h0r := h014.trans (h15.mono h014.size)
    have hB0r := hb0.trans (h0r.mono hb0.size)
    clear hsl hx14' h014 h15
    cases hag : allGot (T.order i)
    · have hfin := Lib.hid (show pick p s i j c n = (T, 0) by rw [hfin2.out]; unfold close; rw [hag]; rfl)
      clear hag hfin2
      have hbx9 := hR.out _ h0r
      obtain ⟨b0, b1, b2, b3, b4, b5, b6⟩ := BoxAt.cells hx.out.boxAt
      have hone9 := OwnSt.one hx.out.own
      go_wp2_with (refine wpList_store_state rfl (.tmp 12) (.tmp 136) rfl rfl (w.heap.size + 1 + 1) nilSV V7 hbx9 rfl rfl hone9 (fun w9 hbox9 hg9 => ?_))
      have hO9 := OwnSt.keptBy hx.out.own hg9 hbx9 (by decide) (by decide) (by decide) (by decide) (by decide) (by decide)
      obtain ⟨p0, p1, p2, p3, p4, p5, p6⟩ := BoxAt.cells hbox9
      have hfin9 : Below w.heap.size w w9 := Below.grown hB0r hg9 (Below.size hB0r) (fun k hk => by injection hk with hk; omega)
      clear b0 b1 b2 b3 b4 b5 b6
      go_wp2_with fail
      exact bodyPost_ret (v := .tuple #[SV.val V7, .int .i64 0]) (by simp [results, Tryz.results48, go_sem, SV.val, p0, p1, p2, p3, p4, p5, p6]) rfl (actOk hfin.out (hO9.from_ hle) hfin9)
    · have hfin := Lib.hid (show pick p s i j c n = ({ T with orders := T.orders.set i { T.order i with kind := 2 } }, 0) by rw [hfin2.out]; unfold close; rw [hag]; rfl)
      clear hag hfin2
      obtain ⟨_, _, z0, _⟩ := hx.out.own.orderCells hTi eo7.out
      go_wp2_with (refine wp_st_kind rfl (.tmp 135) (.const (.int .i64 2)) rfl rfl (i := i) (q := 2) hx.out hTi eo7.out rfl rfl (fun w16 hx16 hst16 => ?_); refine Hid.out ?_)
      unfold Hid
      have h016 := h0r.trans (hst16.below (B := W0.heap.size) (fun q hq => by omega) h0r.size)
      have hB16 := hb0.trans (h016.mono hb0.size)
      have hx16' := Lib.hid hx16
      clear hx16 hst16 z0
      have hbx9 := hR.out _ h016
      obtain ⟨b0, b1, b2, b3, b4, b5, b6⟩ := BoxAt.cells hx16'.out.boxAt
      have hone9 := OwnSt.one hx16'.out.own
      go_wp2_with (refine wpList_store_state rfl (.tmp 12) (.tmp 136) rfl rfl (w.heap.size + 1 + 1) nilSV V7 hbx9 rfl rfl hone9 (fun w9 hbox9 hg9 => ?_))
      have hO9 := OwnSt.keptBy hx16'.out.own hg9 hbx9 (by decide) (by decide) (by decide) (by decide) (by decide) (by decide)
      obtain ⟨p0, p1, p2, p3, p4, p5, p6⟩ := BoxAt.cells hbox9
      have hfin9 : Below w.heap.size w w9 := Below.grown hB16 hg9 (Below.size hB16) (fun k hk => by injection hk with hk; omega)
      clear b0 b1 b2 b3 b4 b5 b6
      go_wp2_with fail
      exact bodyPost_ret (v := .tuple #[SV.val V7, .int .i64 0]) (by simp [results, Tryz.results48, go_sem, SV.val, p0, p1, p2, p3, p4, p5, p6]) rfl (actOk hfin.out (hO9.from_ hle) hfin9)
  · have hne : (checkState p s != 0) = true := by simpa using hc
    have hfin := Lib.hid (pick_bad (o := o) (k := k) (b := b) (n := n) hc)
    clear hc
    have hbx9 := hR.out _ h1
    go_wp2_with (refine wpList_store_state rfl (.tmp 12) (.tmp 26) rfl rfl (w.heap.size + 1 + 1) nilSV nilSV hbx9 rfl rfl rfl (fun w9 hbox9 hg9 => ?_))
    obtain ⟨p0, p1, p2, p3, p4, p5, p6⟩ := BoxAt.cells hbox9
    have hfin9 : Below w.heap.size w w9 := Below.grown hB1 hg9 (Below.size hB1) (fun k hk => by injection hk with hk; omega)
    go_wp2_with fail
    exact bodyPost_ret (v := .tuple #[nilSV.val, .int .i64 (checkState p s)]) (by simp [results, Tryz.results48, go_sem, SV.val, p0, p1, p2, p3, p4, p5, p6]) rfl (actErr hfin.out hfin9)
end Wh
namespace Wh

theorem foldl_inv {α β : Type} {P : β → Prop} {f : β → α → β} : ∀ {l : List α} {t : β}, (∀ t x, x ∈ l → P t → P (f t x)) → P t → P (l.foldl f t)
  | [], _, _, h => h
  | x :: l, _, hs, h => foldl_inv (l := l) (fun t y hy => hs t y (List.mem_cons_of_mem _ hy)) (hs _ x (List.mem_cons_self ..) h)

/-- t is s with moves more. -/
structure Filled (p : Plan) (s t : State) : Prop where
  right : Right p t
  got : ∀ o, o < t.orders.length → ¬ ((t.order o).kind = 1 ∧ allGot (t.order o) = true)
  rest : t = { s with moves := t.moves }
  ext : ∃ l, t.moves = s.moves ++ l ∧ ∀ x ∈ l, ((0 ≤ x.src ∧ x.src < p.bins.length) ∧ (0 ≤ x.dst ∧ x.dst < p.bins.length) ∧ (0 ≤ x.good ∧ x.good < p.sizes.length)) ∧ (p.bin x.src.toNat).front = false ∧ (p.bin x.dst.toNat).front = true ∧
    cell s.on x.dst.toNat x.good.toNat + coming t x.dst x.good ≤ (p.bin x.dst.toNat).high
  less : ∀ b : Nat, b < p.bins.length → free p t b ≤ free p s b ∧ (free p t b < free p s b → 0 ≤ free p t b)

section
variable {p : Plan} {s t : State} {b g f : Nat} {n : Int}
theorem goingOf_push (l : List Move) (x : Move) (b g : Int) : goingOf (l ++ [x]) b g = goingOf l b g + fromN b g x := by
  unfold goingOf
  rw [List.map_append, List.sum_append]
  simp
theorem comingOf_push (l : List Move) (x : Move) (b g : Int) : comingOf (l ++ [x]) b g = comingOf l b g + toN b g x := by
  unfold comingOf
  rw [List.map_append, List.sum_append]
  simp
/-- One more move. -/
def addMove (t : State) (x : Move) : State := { t with moves := t.moves ++ [x] }
theorem addMove_bound (x : Move) (b g : Int) : bound (addMove t x) b g = bound t b g + fromN b g x := by
  unfold bound
  have e : heldIn (addMove t x) b g = heldIn t b g := rfl
  have e2 : goingOf (addMove t x).moves b g = goingOf t.moves b g + fromN b g x := goingOf_push _ _ _ _
  rw [e, e2]
  omega
theorem addMove_coming (x : Move) (b g : Int) : coming (addMove t x) b g = coming t b g + toN b g x := comingOf_push _ _ _ _
theorem addMove_free (b' : Nat) (hg : g < p.sizes.length) : free p (addMove t ⟨g, f, b, n⟩) b' = free p t b' - if b' = b then n * intAt p.sizes g else 0 := by
  unfold free
  by_cases h : b' = b
  · subst h
    rw [if_pos rfl]
    have := sumTo_one (f := fun g => (cell t.on (b' : Int).toNat g + coming t b' g) * intAt p.sizes g) (g := fun g' => (cell (addMove t ⟨g, f, b', n⟩).on (b' : Int).toNat g' + coming (addMove t ⟨g, f, b', n⟩) b' g') * intAt p.sizes g') (n := p.sizes.length) (i := g) (d := n * intAt p.sizes g) hg (fun k hk hne => by
      have e : coming (addMove t ⟨g, f, b', n⟩) b' k = coming t b' k := by
        rw [addMove_coming]
        unfold toN
        rw [if_neg (by simp only; omega), Int.add_zero]
      simp only [e]
      rfl) (by
      have e : coming (addMove t ⟨g, f, b', n⟩) b' g = coming t b' g + n := by
        rw [addMove_coming]
        unfold toN
        rw [if_pos ⟨rfl, rfl⟩]
      simp only [e]
      have e1 : (addMove t ⟨g, f, b', n⟩).on = t.on := rfl
      rw [e1, ← Int.add_mul]
      congr 1
      omega)
    rw [this]
    omega
  · rw [if_neg h, Int.sub_zero]
    congr 1
    refine sumTo_congr fun k hk => ?_
    have e : coming (addMove t ⟨g, f, b, n⟩) b' k = coming t b' k := by
      rw [addMove_coming]
      unfold toN
      rw [if_neg (by simp only; omega), Int.add_zero]
    rw [e]
    rfl
theorem fill_room {r z n : Int} (hz : 1 ≤ z) (hn : 1 ≤ n) (h : n ≤ r.tdiv z) : n * z ≤ r := by
  have h0 : 0 < r := by
    refine Classical.byContradiction fun hr => ?_
    have h1 : (-r).tdiv z = -(r.tdiv z) := Int.neg_tdiv ..
    have h2 : 0 ≤ (-r).tdiv z := Int.tdiv_nonneg (by omega) (by omega)
    omega
  have h1 : z * r.tdiv z + r.tmod z = r := Int.mul_tdiv_add_tmod r z
  have h2 : 0 ≤ r.tmod z := Int.tmod_nonneg _ (by omega)
  have h3 : n * z ≤ r.tdiv z * z := Int.mul_le_mul_of_nonneg_right h (by omega)
  have h4 : r.tdiv z * z = z * r.tdiv z := Int.mul_comm _ _
  omega
theorem filled_move (h : Filled p s t) (hb : b < p.bins.length) (hg : g < p.sizes.length) (hf : f < p.bins.length) (hbf : (p.bin b).front = true) (hff : (p.bin f).front = false) (h8 : t.moves.length < 8) (hn : 0 < n)
    (h1 : n ≤ (p.bin b).high - cell t.on b g - coming t b g) (h2 : n ≤ avail t f g) (h3 : n * intAt p.sizes g ≤ free p t b) : Filled p s (addMove t ⟨g, f, b, n⟩) := by
  have hr := h.right
  have hs := hr.sane
  have hfb : f ≠ b := fun e => by rw [e, hbf] at hff; cases hff
  have hav := hr.avail_range hf hg
  have hcl := hs.cell hf hg
  have hon : t.on = s.on := by rw [h.rest]
  refine ⟨Right.of (Sane.of hs.shelf hs.orders4 ?_ (fun o ho => ⟨hs.lines3 ho, hs.kind ho⟩) (fun o k ho hk => lineOk_iff.2 (hs.line ho hk)) hs.holds (fun x hx => List.all_eq_true.1 (formed_iff.1 hs.form).2.2.1 x hx) (fun x hx => ?_)
    (formed_iff.1 hs.form).2.2.2.2.1 (formed_iff.1 hs.form).2.2.2.2.2.1 (formed_iff.1 hs.form).2.2.2.2.2.2) (fun g' hg' => hr.sum hg') (fun b' g' hb' hg' => ?_) (fun o k ho hk => hr.line o k ho hk), h.got, ?_, ?_, fun b' hb' => ?_⟩
  · show (t.moves ++ [_]).length ≤ 8
    simp
    omega
  · rcases List.mem_append.1 hx with hx | hx
    · exact List.all_eq_true.1 (formed_iff.1 hs.form).2.2.2.1 x hx
    · obtain rfl := List.mem_singleton.1 hx
      exact moveOk_iff.2 ⟨by simp only; omega, by simp only; omega, by simp only; omega, by simp only; omega, by simp only; omega, by simp only; omega⟩
  · have hq := hr.bnd hb' hg'
    rw [addMove_bound]
    have e1 : (addMove t ⟨g, f, b, n⟩).on = t.on := rfl
    rw [e1]
    unfold fromN
    simp only
    split
    · rename_i hc
      obtain ⟨c1, c2⟩ := hc
      obtain rfl : f = b' := by omega
      obtain rfl : g = g' := by omega
      unfold avail at h2
      simp only [Int.toNat_natCast] at h2
      omega
    · omega
  · have := h.rest
    unfold addMove
    simp only
    rw [this]
  · obtain ⟨l, hl, hx⟩ := h.ext
    refine ⟨l ++ [⟨g, f, b, n⟩], ?_, fun x hxm => ?_⟩
    · show t.moves ++ [_] = _
      rw [hl, List.append_assoc]
    · rw [addMove_coming]
      unfold toN
      simp only
      rcases List.mem_append.1 hxm with hxm | hxm
      · obtain ⟨x1, x2, x3, x4⟩ := hx x hxm
        refine ⟨x1, x2, x3, ?_⟩
        split
        · rename_i hc
          obtain ⟨c1, c2⟩ := hc
          rw [← c1, ← c2]
          simp only [Int.toNat_natCast]
          rw [← hon]
          omega
        · omega
      · obtain rfl := List.mem_singleton.1 hxm
        refine ⟨⟨by simp only; omega, by simp only; omega, by simp only; omega⟩, by simpa using hff, by simpa using hbf, ?_⟩
        rw [if_pos ⟨rfl, rfl⟩]
        simp only [Int.toNat_natCast]
        rw [← hon]
        omega
  · obtain ⟨l1, l2⟩ := h.less b' hb'
    rw [addMove_free b' hg]
    have hsz := right_size hs.plan hg
    have hpos : 0 ≤ n * intAt p.sizes g := Int.mul_nonneg (by omega) (by omega)
    by_cases e : b' = b
    · subst e
      rw [if_pos rfl]
      omega
    · rw [if_neg e]
      omega
theorem filled_one (h : Filled p s t) (hb : b < p.bins.length) (hg : g < p.sizes.length) (hf : f < p.bins.length) (hbf : (p.bin b).front = true) (hff : (p.bin f).front = false) : Filled p s (fill1 p t b g f) := by
  unfold fill1
  split
  · exact h
  · split
    · rename_i h8 hn
      have hsz := right_size h.right.sane.plan hg
      have hN : fillN p t b g f ≤ (p.bin b).high - cell t.on b g - coming t b g ∧ fillN p t b g f ≤ avail t f g ∧ fillN p t b g f ≤ (free p t b).tdiv (intAt p.sizes g) := by
        unfold fillN
        omega
      exact filled_move h hb hg hf hbf hff (by omega) hn hN.1 hN.2.1 (fill_room hsz.1 (by omega) hN.2.2)
    · exact h
theorem filled_good (h : Filled p s t) (hb : b < p.bins.length) (hg : g < p.sizes.length) (hbf : (p.bin b).front = true) : Filled p s (fillGood p b t g) := by
  unfold fillGood
  split
  · exact foldl_inv (P := Filled p s) (fun _ _ hf h => filled_one h hb hg (mem_kinds.1 hf).1 hbf (mem_kinds.1 hf).2) h
  · exact h
theorem filled_bin (h : Filled p s t) (hb : b < p.bins.length) (hbf : (p.bin b).front = true) : Filled p s ((List.range p.sizes.length).foldl (fillGood p b) t) :=
  foldl_inv (P := Filled p s) (fun _ _ hg h => filled_good h hb (List.mem_range.1 hg) hbf) h
theorem filled_self (h : checkState p s = 0) : Filled p s s := by
  obtain ⟨h1, h2⟩ := check_iff.1 h
  exact ⟨h1, h2, rfl, ⟨[], by simp, fun x hx => by simp at hx⟩, fun b hb => ⟨Int.le_refl _, fun hh => absurd hh (by omega)⟩⟩
theorem fillS_filled (h : checkState p s = 0) : Filled p s (fillS p s) :=
  foldl_inv (P := Filled p s) (fun _ _ hb h => filled_bin h (mem_kinds.1 hb).1 (mem_kinds.1 hb).2) (filled_self h)
theorem filled_check (h : Filled p s t) : checkState p t = 0 := check_iff.2 ⟨h.right, h.got⟩
theorem filled_full {t : State} (h : 8 ≤ t.moves.length) (p : Plan) (b g f : Nat) : fill1 p t b g f = t := by unfold fill1; rw [if_pos h]
theorem fillGood_full (h : 8 ≤ t.moves.length) (p : Plan) (b g : Nat) : fillGood p b t g = t := by
  unfold fillGood
  split
  · exact foldl_inv (P := fun u => u = t) (fun u f _ hu => by rw [hu]; exact filled_full h p b g f) rfl
  · rfl
theorem fillBin_full (h : 8 ≤ t.moves.length) (p : Plan) (b : Nat) (l : List Nat) : l.foldl (fillGood p b) t = t :=
  foldl_inv (P := fun u => u = t) (fun u g _ hu => by rw [hu]; exact fillGood_full h p b g) rfl
theorem fillBins_full (h : 8 ≤ t.moves.length) (p : Plan) (l : List Nat) : l.foldl (fun t b => (List.range p.sizes.length).foldl (fillGood p b) t) t = t :=
  foldl_inv (P := fun u => u = t) (fun u b _ hu => by rw [hu]; exact fillBin_full h p b _) rfl
theorem fill_right (h : (fill p s).2 = 0) : checkState p s = 0 ∧ (fill p s).1 = fillS p s := by
  unfold fill at h ⊢
  by_cases h1 : checkState p s = 0
  · rw [if_neg (fun hn => hn h1)]
    exact ⟨h1, rfl⟩
  · rw [if_pos h1] at h
    exact absurd h h1
end

-- a move that is done
section
variable {p : Plan} {s : State} {k : Nat} {n : Int}
theorem sum_erase {α : Type} (f : α → Int) : ∀ {l : List α} {k : Nat} (hk : k < l.length), ((l.eraseIdx k).map f).sum = (l.map f).sum - f l[k]
  | x :: l, 0, _ => by simp; omega
  | x :: l, k + 1, hk => by
    have := sum_erase f (l := l) (k := k) (by simpa using hk)
    simp only [List.eraseIdx_cons_succ, List.map_cons, List.sum_cons, List.getElem_cons_succ]
    omega
structure Moves (p : Plan) (s : State) (k : Nat) (n : Int) : Prop where
  hk : k < s.moves.length
  n0 : 0 ≤ n
  n1 : n ≤ (moveAt s.moves k).n
  full : cell s.on (moveAt s.moves k).dst.toNat (moveAt s.moves k).good.toNat + n ≤ 200
theorem goingOf_mem (hs : Sane p s) (hk : k < s.moves.length) : (moveAt s.moves k).n ≤ goingOf s.moves (moveAt s.moves k).src (moveAt s.moves k).good := by
  have h1 := sum_erase (fromN (moveAt s.moves k).src (moveAt s.moves k).good) hk
  have h2 : 0 ≤ ((s.moves.eraseIdx k).map (fromN (moveAt s.moves k).src (moveAt s.moves k).good)).sum := (list_sum_range (m := 200) (fun x hx => by
    obtain ⟨y, hy, rfl⟩ := List.mem_map.1 hx
    obtain ⟨i, hi, rfl⟩ := List.getElem_of_mem (List.mem_of_mem_eraseIdx hy)
    have := hs.moveAt hi
    rw [Wh.moveAt_eq hi] at this
    unfold fromN
    split <;> omega)).1
  have h3 : fromN (moveAt s.moves k).src (moveAt s.moves k).good s.moves[k] = (moveAt s.moves k).n := by
    rw [moveAt_eq hk]
    unfold fromN
    rw [if_pos ⟨rfl, rfl⟩]
  unfold goingOf
  omega
theorem moved_cell (hc : checkState p s = 0) (f : Moves p s k n) {b g : Nat} (hb : b < p.bins.length) (hg : g < p.sizes.length) : cell (movedS s k n).on b g = cell s.on b g + if (g : Int) = (moveAt s.moves k).good ∧ (b : Int) = (moveAt s.moves k).dst then n else if (g : Int) = (moveAt s.moves k).good ∧ (b : Int) = (moveAt s.moves k).src then -n else 0 := by
  have hs := (right_of_check hc).sane
  obtain ⟨m1, m2, m3, m4, m5, m6⟩ := hs.moveAt f.hk
  have h1 : (moveAt s.moves k).src.toNat < s.on.length := by rw [hs.onLen]; omega
  have h2 : (moveAt s.moves k).good.toNat < (rowAt s.on (moveAt s.moves k).src.toNat).length := by rw [hs.rowLen (by omega)]; omega
  have h3 : (moveAt s.moves k).dst.toNat < (setCell s.on (moveAt s.moves k).src.toNat (moveAt s.moves k).good.toNat (cell s.on (moveAt s.moves k).src.toNat (moveAt s.moves k).good.toNat - n)).length := by rw [length_setCell, hs.onLen]; omega
  have h4 : (moveAt s.moves k).good.toNat < (rowAt (setCell s.on (moveAt s.moves k).src.toNat (moveAt s.moves k).good.toNat (cell s.on (moveAt s.moves k).src.toNat (moveAt s.moves k).good.toNat - n)) (moveAt s.moves k).dst.toNat).length := by
    rw [rowlen_setCell, hs.rowLen (by omega)]; omega
  have e : cell (movedS s k n).on b g = _ := cell_setCell h3 h4
  rw [e, cell_setCell h1 h2, cell_setCell h1 h2]
  by_cases c1 : (g : Int) = (moveAt s.moves k).good ∧ (b : Int) = (moveAt s.moves k).dst
  · rw [if_pos (by omega), if_neg (by omega), if_pos c1]
    obtain ⟨rfl, rfl⟩ : b = (moveAt s.moves k).dst.toNat ∧ g = (moveAt s.moves k).good.toNat := by omega
    rfl
  · rw [if_neg (by omega), if_neg c1]
    by_cases c2 : (g : Int) = (moveAt s.moves k).good ∧ (b : Int) = (moveAt s.moves k).src
    · rw [if_pos (by omega), if_pos c2]
      obtain ⟨rfl, rfl⟩ : b = (moveAt s.moves k).src.toNat ∧ g = (moveAt s.moves k).good.toNat := by omega
      omega
    · rw [if_neg (by omega), if_neg c2, Int.add_zero]
theorem moved_bound (f : Moves p s k n) (b g : Int) : bound (movedS s k n) b g = bound s b g - if (moveAt s.moves k).src = b ∧ (moveAt s.moves k).good = g then (moveAt s.moves k).n else 0 := by
  unfold bound
  have e1 : heldIn (movedS s k n) b g = heldIn s b g := rfl
  have e2 : goingOf (movedS s k n).moves b g = _ := sum_erase (fromN b g) f.hk
  rw [e1, e2]
  have e3 : fromN b g (s.moves[k]'f.hk) = if (moveAt s.moves k).src = b ∧ (moveAt s.moves k).good = g then (moveAt s.moves k).n else 0 := by
    rw [moveAt_eq f.hk]
    rfl
  rw [e3]
  unfold goingOf
  omega
theorem moved_sum (hc : checkState p s = 0) (f : Moves p s k n) {g : Nat} (_ : g < p.sizes.length) : sumOf (movedS s k n).on g = sumOf s.on g := by
  have hs := (right_of_check hc).sane
  obtain ⟨m1, m2, m3, m4, m5, m6⟩ := hs.moveAt f.hk
  have h1 : (moveAt s.moves k).src.toNat < s.on.length := by rw [hs.onLen]; omega
  have h2 : (moveAt s.moves k).good.toNat < (rowAt s.on (moveAt s.moves k).src.toNat).length := by rw [hs.rowLen (by omega)]; omega
  have h3 : (moveAt s.moves k).dst.toNat < (setCell s.on (moveAt s.moves k).src.toNat (moveAt s.moves k).good.toNat (cell s.on (moveAt s.moves k).src.toNat (moveAt s.moves k).good.toNat - n)).length := by rw [length_setCell, hs.onLen]; omega
  have h4 : (moveAt s.moves k).good.toNat < (rowAt (setCell s.on (moveAt s.moves k).src.toNat (moveAt s.moves k).good.toNat (cell s.on (moveAt s.moves k).src.toNat (moveAt s.moves k).good.toNat - n)) (moveAt s.moves k).dst.toNat).length := by
    rw [rowlen_setCell, hs.rowLen (by omega)]; omega
  have e : sumOf (movedS s k n).on g = _ := sumOf_setCell h3 h4 g
  rw [e, sumOf_setCell h1 h2, cell_setCell h1 h2, if_neg (show ¬ ((moveAt s.moves k).dst.toNat = (moveAt s.moves k).src.toNat ∧ _) by omega)]
  split <;> omega
theorem moved_check (hc : checkState p s = 0) (f : Moves p s k n) : checkState p (movedS s k n) = 0 := by
  obtain ⟨hr, hgot⟩ := check_iff.1 hc
  have hs := hr.sane
  obtain ⟨m1, m2, m3, m4, m5, m6⟩ := hs.moveAt f.hk
  have hge := goingOf_mem hs f.hk
  have n0 := f.n0
  have n1 := f.n1
  have hlen : (movedS s k n).on.length = p.bins.length := by
    show (setCell (setCell _ _ _ _) _ _ _).length = _
    rw [length_setCell, length_setCell, hs.onLen]
  have hrow : ∀ b, b < p.bins.length → (rowAt (movedS s k n).on b).length = p.sizes.length := fun b hb => by
    show (rowAt (setCell (setCell _ _ _ _) _ _ _) b).length = _
    rw [rowlen_setCell, rowlen_setCell, hs.rowLen hb]
  obtain ⟨gs, hgs⟩ : ∃ gs : Nat, (moveAt s.moves k).good = gs := ⟨(moveAt s.moves k).good.toNat, by omega⟩
  obtain ⟨bs, hbs⟩ : ∃ bs : Nat, (moveAt s.moves k).src = bs := ⟨(moveAt s.moves k).src.toNat, by omega⟩
  obtain ⟨ds, hds⟩ : ∃ ds : Nat, (moveAt s.moves k).dst = ds := ⟨(moveAt s.moves k).dst.toNat, by omega⟩
  have hbn := hr.bnd (b := bs) (g := gs) (by omega) (by omega)
  have hhl := heldTo_range hs bs gs s.holds.length
  rw [heldTo_all] at hhl
  have hfull := f.full
  rw [hgs, hds] at hfull
  simp only [Int.toNat_natCast] at hfull
  refine check_iff.2 ⟨Right.of (Sane.of ?_ hs.orders4 ?_ (fun o ho => ⟨hs.lines3 ho, hs.kind ho⟩) (fun o k ho hk => lineOk_iff.2 (hs.line ho hk)) hs.holds (fun x hx => List.all_eq_true.1 (formed_iff.1 hs.form).2.2.1 x hx) (fun x hx => ?_)
    (formed_iff.1 hs.form).2.2.2.2.1 (formed_iff.1 hs.form).2.2.2.2.2.1 (formed_iff.1 hs.form).2.2.2.2.2.2) (fun g' hg' => ?_) (fun b' g' hb' hg' => ?_) (fun o k ho hk => hr.line o k ho hk), hgot⟩
  · refine checkShelf_zero.2 ⟨hs.plan, shelfOk_iff.2 ⟨hlen, fun b hb => ?_⟩⟩
    rw [hlen] at hb
    refine ⟨hrow b hb, fun g hg => ?_⟩
    rw [moved_cell hc f hb hg]
    have hcl := hs.cell hb hg
    rw [hgs, hbs, hds]
    split
    · rename_i c
      obtain ⟨rfl, rfl⟩ : g = gs ∧ b = ds := by omega
      omega
    · split
      · rename_i c
        obtain ⟨rfl, rfl⟩ : g = gs ∧ b = bs := by omega
        unfold bound at hbn
        rw [hgs, hbs] at hge
        omega
      · omega
  · show (s.moves.eraseIdx k).length ≤ 8
    rw [List.length_eraseIdx]
    have := hs.moves8
    split <;> omega
  · exact List.all_eq_true.1 (formed_iff.1 hs.form).2.2.2.1 x (List.mem_of_mem_eraseIdx hx)
  · rw [moved_sum hc f hg']
    exact hr.sum hg'
  · have hq := hr.bnd hb' hg'
    rw [moved_bound f, moved_cell hc f hb' hg']
    rw [hgs, hbs, hds]
    have hsd : bs ≠ ds := by omega
    split
    · rename_i c
      obtain ⟨c1, c2⟩ := c
      rw [if_neg (by omega), if_pos (by omega)]
      omega
    · rename_i c
      split <;> omega
theorem moved_right {k n : Int} (h : (moved p s k n).2 = 0) : checkState p s = 0 ∧ ∃ i : Nat, k = i ∧ Moves p s i n ∧ (moved p s k n).1 = movedS s i n := by
  unfold moved at h ⊢
  by_cases h1 : checkState p s = 0
  · rw [if_neg (fun hn => hn h1)] at h ⊢
    cases h2 : within k 0 (s.moves.length - 1)
    · rw [h2, if_pos (by rfl)] at h
      simp at h
    rw [h2, if_neg (by simp)] at h
    rw [if_neg (by simp)]
    cases h3 : within n 0 (moveAt s.moves k.toNat).n
    · rw [h3, if_pos (by rfl)] at h
      simp at h
    rw [h3, if_neg (by simp)] at h
    rw [if_neg (by simp)]
    have h2' := within_iff.1 h2
    have h3' := within_iff.1 h3
    by_cases h4 : 200 < cell s.on (moveAt s.moves k.toNat).dst.toNat (moveAt s.moves k.toNat).good.toNat + n
    · rw [if_pos h4] at h
      simp at h
    rw [if_neg h4]
    exact ⟨h1, k.toNat, by omega, ⟨by omega, h3'.1, h3'.2, by omega⟩, rfl⟩
  · rw [if_pos h1] at h
    exact absurd h h1
end
section
variable {p : Plan} {s : State} {k n : Int}
theorem fill_bad (h : checkState p s ≠ 0) : fill p s = (dState, checkState p s) := by unfold fill; rw [if_pos h]
theorem fill_ok (h : checkState p s = 0) : fill p s = (fillS p s, 0) := by unfold fill; rw [if_neg (fun hn => hn h)]
theorem moved_bad (h : checkState p s ≠ 0) : moved p s k n = (dState, checkState p s) := by unfold moved; rw [if_pos h]
theorem moved_none (h : checkState p s = 0) (h2 : k < 0 ∨ (s.moves.length : Int) ≤ k) : moved p s k n = (dState, 4) := by
  unfold moved
  rw [if_neg (fun hn => hn h), within_false.2 (by omega)]
  rfl
theorem moved_range {i : Nat} (h : checkState p s = 0) (hi : i < s.moves.length) (h3 : n < 0 ∨ (moveAt s.moves i).n < n) : moved p s i n = (dState, 3) := by
  unfold moved
  rw [if_neg (fun hn => hn h), within_iff.2 (by omega), if_neg (by simp), Int.toNat_natCast, within_false.2 h3]
  rfl
theorem moved_many {i : Nat} (h : checkState p s = 0) (hi : i < s.moves.length) (h3 : 0 ≤ n ∧ n ≤ (moveAt s.moves i).n) (h4 : 200 < cell s.on (moveAt s.moves i).dst.toNat (moveAt s.moves i).good.toNat + n) : moved p s i n = (dState, 2) := by
  unfold moved
  rw [if_neg (fun hn => hn h), within_iff.2 (by omega), if_neg (by simp), Int.toNat_natCast, within_iff.2 h3, if_neg (by simp), if_pos h4]
theorem moved_ok {i : Nat} (h : checkState p s = 0) (f : Moves p s i n) : moved p s i n = (movedS s i n, 0) := by
  have hk := f.hk
  have h4 := f.full
  unfold moved
  rw [if_neg (fun hn => hn h), within_iff.2 (by omega), if_neg (by simp), Int.toNat_natCast, within_iff.2 ⟨f.n0, f.n1⟩, if_neg (by simp), if_neg (by omega)]
end
end Wh
