/- Texts of the claim, joined: PickB, FillA, RegIn, FillP. -/
import Derived.Sort.QuietThIn
import Derived.OwnWalkIn
import Derived.RangeFuncCalls
import Derived.Test.YtfhfkijmebhgmaaGreatQ27
import Derived.Test.YtfhfkijmebhgmaaGreatQ15
import Derived.Test.YtfhfkijmebhgmaaGreatQ08
import Derived.Test.YtfhfkijmebhgmaaGreatQ07
import Derived.Test.YtfhfkijmebhgmaaGreatQ14
namespace Wh
open Go Go.RowKit Go.Shelf Go.Proofs
attribute [local go_sem] run_indexAt_letter evL_tmp evL_const evL_func

theorem drop_zero {l : List Hold} {o k b : Int} (hok : holdsOk l = true) (h : keptAt l o k b = 0) : drop l o k b = ([], 0, 4) := by
  unfold drop
  rw [hok, if_neg (by simp), if_pos h]
theorem drop_some {l : List Hold} {o k b : Int} (hok : holdsOk l = true) (h : keptAt l o k b ≠ 0) : drop l o k b = (withHold l ⟨o, k, b, 0⟩, keptAt l o k b, 0) := by
  unfold drop
  rw [hok, if_neg (by simp), if_neg h]
theorem hdDropAt {l x : List Hold} {o ln b m c : Int} (h : drop l o ln b = (x, m, c)) (w : World) (v : Value) (hv : Sl cHold w w.heap.size v l) :
    Calls Tryz.prog 101 #[v, .int .i64 o, .int .i64 ln, .int .i64 b] w fun e w' => ∃ u, e = .returned (.tuple #[u, .int .i64 m, .int .i64 c]) ∧ Own cHold 4 46 w' w.heap.size u x ∧ Below w.heap.size w w' := by
  have := hdDrop w v l o ln b hv
  unfold DropPost at this
  rw [h] at this
  exact this
theorem setLine_twice (s : State) (i j : Nat) (y z : Line) (hi : i < s.orders.length) : (s.setLine i j y).setLine i j z = s.setLine i j z := by
  unfold State.setLine
  simp only
  have h : State.order { s with orders := s.orders.set i { s.order i with lines := (s.order i).lines.set j y } } i = { s.order i with lines := (s.order i).lines.set j y } := by
    unfold State.order
    rw [orderAt_set hi, if_pos rfl]
  rw [h]
  simp only [List.set_set]
theorem picked_steps {s : State} {i j c : Nat} {n held : Int} (hi : i < s.orders.length) (y : Line) :
    ((preS s i j c n).setLine i j y).setLine i j { s.line i j with got := (s.line i j).got + n, back := (s.line i j).back + (held - n) } = picked s i j c held n := by
  rw [setLine_twice (preS s i j c n) i j _ _ hi, picked_eq, show (s.line i j).back + (held - n) = (s.line i j).back + held - n by omega]
set_option maxHeartbeats 1000000 in
/-- Pick's closure: a line that lacks some. -/
theorem pkLacks (x : Line) (W : World) : Calls Tryz.prog 102 #[vLine x] W fun e W' => e = .returned (.bool (decide (x.got < x.want))) ∧ Below W.heap.size W W' := by
  have hb0 : Below W.heap.size W (W.alloc (.cells #[.int .i64 (x).good, .int .i64 (x).want, .int .i64 (x).got, .int .i64 (x).back] 44)) := (Below.refl _ _).alloc (Nat.le_refl _) _
  unfold vLine
  go_enter Tryz.func102, Tryz.ntmps102
  go_wp2_with fail
  go_ret
  exact ⟨rfl, hb0⟩
theorem entersPkLacks : Enters Tryz.prog 102 := enters_of Tryz.func102 (by kernel_rfl) rfl

set_option maxHeartbeats 8000000 in
set_option maxRecDepth 100000 in
theorem pkPick (w : World) (v vs : Value) (p : Plan) (s : State) (o k b n : Int) (hp : PlanV w w.heap.size v p) (hv : StateV w w.heap.size vs s) :
    Calls Tryz.prog 48 #[v, vs, .int .i64 o, .int .i64 k, .int .i64 b, .int .i64 n] w (ActPost (pick p s o k b n) w) := by
  obtain ⟨Ab, cb, As, cs, rfl, hP', hBn, hSz, hlb, hls⟩ := openPl hp
  obtain ⟨A0, c0, A1, c1, A2, c2, A3, c3, A4, c4, A5, c5, A6, c6, rfl, hV, hN, hO, hH, hM, hI, hU, hX, hl0, hl1, hl2, hl3, hl4, hl5, hl6⟩ := openOne hv
  go_enter Tryz.func48, Tryz.ntmps48
  go_wp2_with fail
  obtain ⟨W0, hW0, hb0, hsz0, hsz1, hsE, hK, hR⟩ := boxesAct w p s Ab cb As cs A0 c0 A1 c1 A2 c2 A3 c3 A4 c4 A5 c5 A6 c6
  rw [hW0]
  clear hW0
  obtain ⟨⟨y0, y1⟩, x0, x1, x2, x3, x4, x5, x6, hbz0, hbz1⟩ := hK.out W0 (Below.refl W0.heap.size W0)
  go_wp2_with fail
  clear y0 y1 x0 x1 x2 x3 x4 x5 x6 hbz0 hbz1
  refine (sCheck _ _ _ p s (hP'.out _ hb0) (hV.out _ hb0)).mono ?_
  rintro e W1 ⟨rfl, h1⟩
  have hB1 := hb0.trans (h1.mono hb0.size)
  obtain ⟨⟨y0, y1⟩, x0, x1, x2, x3, x4, x5, x6, hbz0, hbz1⟩ := hK.out W1 (h1)
  by_cases hc : checkState p s = 0
  · have hc' := Lib.hid hc
    have hsn := Lib.hid (checkState_zero.1 hc).1
    rw [hc]
    clear hc
    by_cases hk0 : keptAt s.holds o k b = 0
    · have hfin := Lib.hid (pick_none (n := n) hc'.out hk0)
      have hdr := Lib.hid (drop_zero hsn.out.holds hk0)
      clear hk0
      go_wp2_with fail
      clear y0 y1 x0 x1 x2 x3 x4 x5 x6 hbz0 hbz1
      refine (hdDropAt hdr.out _ _ (hH.out _ hB1)).mono ?_
      rintro e W2 ⟨u, rfl, hu, h2⟩
      have h02 := h1.trans (h2.mono h1.size)
      have hB2 := hb0.trans (h02.mono hb0.size)
      have hbx9 := hR.out _ h02
      go_wp2_with (refine wpList_store_state rfl (.tmp 12) (.tmp 40) rfl rfl (w.heap.size + 1 + 1) nilSV nilSV hbx9 rfl rfl rfl (fun w9 hbox9 hg9 => ?_))
      obtain ⟨p0, p1, p2, p3, p4, p5, p6⟩ := BoxAt.cells hbox9
      have hfin9 : Below w.heap.size w w9 := Below.grown hB2 hg9 (Below.size hB2) (fun k hk => by injection hk with hk; omega)
      go_wp2_with fail
      exact bodyPost_ret (v := .tuple #[nilSV.val, .int .i64 4]) (by simp [results, Tryz.results48, go_sem, SV.val, p0, p1, p2, p3, p4, p5, p6]) rfl (actErr hfin.out hfin9)
    have hdr := Lib.hid (drop_some hsn.out.holds hk0)
    have hk0' := Lib.hid hk0
    have hpos := keptAt_range (holdsOk_iff.1 hsn.out.holds).1 (holdsOk_iff.1 hsn.out.holds).2 o k b
    clear hk0
    go_wp2_with fail
    clear y0 y1 x0 x1 x2 x3 x4 x5 x6 hbz0 hbz1
    refine (hdDropAt hdr.out _ _ (hH.out _ hB1)).mono ?_
    rintro e W2 ⟨u, rfl, hu, h2⟩
    have h02 := h1.trans (h2.mono h1.size)
    have hB2 := hb0.trans (h02.mono hb0.size)
    have hle : w.heap.size ≤ W1.heap.size := hB1.size
    obtain ⟨A7, c7, rfl⟩ := hu.isSlice
    have hu2 := Lib.hid hu
    have hle0 : W0.heap.size ≤ W1.heap.size := h1.size
    have hle2 : W1.heap.size ≤ W2.heap.size := h2.size
    clear hu h2 h1 hB1
    obtain ⟨⟨y0, y1⟩, x0, x1, x2, x3, x4, x5, x6, hbz0, hbz1⟩ := hK.out W2 (h02)
    by_cases g1 : n < 0
    · have hfin := Lib.hid (pick_range hc'.out hk0'.out (.inl g1))
      clear hu2
      have hbx9 := hR.out _ h02
      go_wp2_with (refine wpList_store_state rfl (.tmp 12) (.tmp 49) rfl rfl (w.heap.size + 1 + 1) nilSV nilSV hbx9 rfl rfl rfl (fun w9 hbox9 hg9 => ?_))
      obtain ⟨p0, p1, p2, p3, p4, p5, p6⟩ := BoxAt.cells hbox9
      have hfin9 : Below w.heap.size w w9 := Below.grown hB2 hg9 (Below.size hB2) (fun k hk => by injection hk with hk; omega)
      go_wp2_with fail
      exact bodyPost_ret (v := .tuple #[nilSV.val, .int .i64 3]) (by simp [results, Tryz.results48, go_sem, SV.val, p0, p1, p2, p3, p4, p5, p6]) rfl (actErr hfin.out hfin9)
    by_cases g2 : keptAt s.holds o k b < n
    · have hfin := Lib.hid (pick_range hc'.out hk0'.out (.inr g2))
      clear hu2
      have hbx9 := hR.out _ h02
      go_wp2_with (refine wpList_store_state rfl (.tmp 12) (.tmp 49) rfl rfl (w.heap.size + 1 + 1) nilSV nilSV hbx9 rfl rfl rfl (fun w9 hbox9 hg9 => ?_))
      obtain ⟨p0, p1, p2, p3, p4, p5, p6⟩ := BoxAt.cells hbox9
      have hfin9 : Below w.heap.size w w9 := Below.grown hB2 hg9 (Below.size hB2) (fun k hk => by injection hk with hk; omega)
      go_wp2_with fail
      exact bodyPost_ret (v := .tuple #[nilSV.val, .int .i64 3]) (by simp [results, Tryz.results48, go_sem, SV.val, p0, p1, p2, p3, p4, p5, p6]) rfl (actErr hfin.out hfin9)
    obtain ⟨i, j, c, rfl, rfl, rfl, hi, hj, hcb, hh1, hh2, hpk⟩ := pick_in hc'.out hk0'.out (n := n) ⟨by omega, by omega⟩
    have hpk' := Lib.hid hpk
    have hn0 : 0 ≤ n ∧ n ≤ keptAt s.holds i j c := ⟨by omega, by omega⟩
    clear hpk hk0' hdr hpos
    go_wp2_with fail
    clear y0 y1 x0 x1 x2 x3 x4 x5 x6 hbz0 hbz1
    refine (sOwn _ _ p s (hV.out _ hB2) hsn.out).mono ?_
    rintro e W5 ⟨_, rfl, ⟨V5, rfl, ho5⟩, h5⟩
    have hone6 := (ho5).one
    have hnb6 := newBox (W5)
    go_wp2_with (refine wpList_store_state rfl (.tmp 18) (.tmp 51) rfl rfl (World.heap (W5)).size nilSV V5 hnb6 rfl rfl hone6 (fun w6 hbox6 hg6 => ?_); refine Hid.out ?_)
    unfold Hid
    have hbb6 := newBelow hg6
    have hbl6 := hbox6.lt
    clear hone6 hnb6 hg6
    have h26 := h5.trans (hbb6.mono h5.size)
    have hx6 := Lib.hid ((Bx.of hbox6 (ho5.below hbb6)).from_ hle2)
    have hu6 := Lib.hid (hu2.out.below h26)
    have h06 := h02.trans (h26.mono h02.size)
    have hle5 : W1.heap.size ≤ W5.heap.size := Nat.le_trans hle2 h5.size
    clear hbox6 ho5 hbb6 h5 hbl6 h02 hB2 h26 hu2 hle2
    generalize W1.heap.size = base at hx6 hle hle0 hle5 hu6
    generalize W5.heap.size = bx at hx6 hle5 ⊢
    have hg0 := (hsn.out.line hi hj).1
    obtain ⟨g, hg⟩ : ∃ g : Nat, (s.line i j).good = (g : Int) := ⟨(s.line i j).good.toNat, by omega⟩
    have hgt : (s.line i j).good.toNat = g := by omega
    have hgp : g < p.sizes.length := by omega
    have hgo : g < s.out.length := by rw [hsn.out.out.1]; exact hgp
    have hgoi : (g : Int) < (s.out.length : Int) := by omega
    have o1 := hsn.out.out.2 hgp
    have hwo : IntKind.i64.wrap (intAt s.out g + n) = intAt s.out g + n := IntWalk.i64_in _ (by omega)
    have hi' : (i : Int) < s.orders.length := by omega
    have hj' : (j : Int) < ((s.order i).lines.length : Int) := by omega
    rw [hgt] at hpk'
    obtain ⟨go, co, curo, eo, hgo1, hblko, z0, z1⟩ := hx6.out.own.orderAt (o := i) hi
    obtain ⟨gl, cl, curl, e1, hgl, hblk, f0, f1, f2, f3⟩ := hx6.out.own.lineAt (o := i) (k := j) hi hj
    obtain ⟨gu, cu, curu, eu, hgu, hbu, ru⟩ := OwnSt.intAtOwn hx6.out.own.out (g := g) hgo
    obtain ⟨c0, c1, c2, c3, c4, c5, c6⟩ := hx6.out.cells
    rw [eo] at c1
    rw [e1] at z1
    rw [eu] at c5
    rw [hg] at f0
    have e1' := Lib.hid e1
    have eo' := Lib.hid eo
    have eu' := Lib.hid eu
    clear e1 eo eu hblk hblko hbu z0 f1 f2 f3
    by_cases hm : 1048576 < intAt s.out g + n
    · have hfin := Lib.hid (show pick p s i j c n = (dState, 2) by rw [hpk'.out, if_pos hm])
      go_wp2_with fail
      go_quiet (fail)
      have h0d := below_drewN h06 nq
      have hBd := hb0.trans (h0d.mono hb0.size)
      clear c0 c1 c2 c3 c4 c5 c6 z1 f0 ru hx6 hu6
      generalize w6.drewN nq = w7 at h0d hBd ⊢
      have hbx9 := hR.out _ h0d
      go_wp2_with (refine wpList_store_state rfl (.tmp 12) (.tmp 73) rfl rfl (w.heap.size + 1 + 1) nilSV nilSV hbx9 rfl rfl rfl (fun w9 hbox9 hg9 => ?_))
      obtain ⟨p0, p1, p2, p3, p4, p5, p6⟩ := BoxAt.cells hbox9
      have hfin9 : Below w.heap.size w w9 := Below.grown hBd hg9 (Below.size hBd) (fun k hk => by injection hk with hk; omega)
      go_wp2_with fail
      exact bodyPost_ret (v := .tuple #[nilSV.val, .int .i64 2]) (by simp [results, Tryz.results48, go_sem, SV.val, p0, p1, p2, p3, p4, p5, p6]) rfl (actErr hfin.out hfin9)
    have hmd := decide_eq_false hm
    have hfin := Lib.hid (show pick p s i j c n = (pickS p s i j c n, 0) by rw [hpk'.out, if_neg hm])
    have hF := Lib.hid (show Picks p s i j c n from ⟨hi, hj, hcb, hh1, hn0.1, hn0.2, by rw [hgt]; omega⟩)
    go_wp2_with fail
    go_quiet (fail)
    have hd7 := below_drewN (Below.refl w6.heap.size w6) nq
    have hx7 := Lib.hid (hx6.out.below hd7)
    have hu7 := Lib.hid (hu6.out.below hd7)
    have h07 := h06.trans (hd7.mono h06.size)
    clear c0 c1 c2 c3 c4 c5 c6 z1 f0 ru hx6 hu6 hd7 h06 hpk' hmd hm
    generalize w6.drewN nq = w7 at hx7 hu7 h07 ⊢
    go_wp2_with (refine wp_st_holds rfl (.tmp 75) (.tmp 74) rfl rfl A7 _ c7 _ hx7.out rfl rfl hu7.out (fun w8 hx8 hst8 => ?_); refine Hid.out ?_)
    unfold Hid
    have h08 := h07.trans (hst8.below (B := W0.heap.size) (fun q hq => by omega) h07.size)
    have hx8' := Lib.hid hx8
    have e19 := Lib.hid (show ({ V5 with holds := .slice A7 (withHold s.holds ⟨i, j, c, 0⟩).length c7 } : SV).line i = .slice (some ⟨gl, 0, none⟩) (s.order i).lines.length cl from e1'.out)
    have eo9 := Lib.hid (show ({ V5 with holds := .slice A7 (withHold s.holds ⟨i, j, c, 0⟩).length c7 } : SV).orders = .slice (some ⟨go, 0, none⟩) s.orders.length co from eo'.out)
    clear hx8 hst8 hx7 hu7 h07 e1' eo' eu'
    generalize ({ V5 with holds := .slice A7 (withHold s.holds ⟨i, j, c, 0⟩).length c7 } : SV) = V9 at hx8' e19 eo9
    have hco : c < s.on.length := by rw [hsn.out.onLen]; exact hcb
    have hci : (c : Int) < (s.on.length : Int) := by omega
    have hgr : g < (rowAt s.on c).length := by rw [hsn.out.rowLen hcb]; exact hgp
    have hgri : (g : Int) < ((rowAt s.on c).length : Int) := by omega
    have hcel := hsn.out.cell hcb hgp
    have hw1 : IntKind.i64.wrap (cell s.on c g - n) = cell s.on c g - n := IntWalk.i64_in _ (by omega)
    obtain ⟨gon, con, cur0, gr, cr, cur, eon, hgon, hbn0, r0, er, hgrb, hbr, rc⟩ := hx8'.out.own.onAt hco hgr
    change w8.cell? _ = some (.int .i64 (cell s.on c g)) at rc
    change w8.cell? _ = some (.slice _ (rowAt s.on c).length _) at r0
    change V9.on = .slice _ s.on.length _ at eon
    obtain ⟨_, f0, _⟩ := hx8'.out.own.lineCells (o := i) (k := j) hi hj e19.out
    change w8.cell? _ = some (.int .i64 (s.line i j).good) at f0
    rw [hg] at f0
    obtain ⟨c0, _⟩ := hx8'.out.cells
    rw [eon] at c0
    have er' := Lib.hid er
    clear eon er hbn0 hbr
    go_wp2_with fail
    go_still_tail 14, (by kernel_rfl)
    change wpList _ _ _ _ _ w8.drew
    refine wp_st_on rfl (.tmp 89) (.tmp 88) rfl rfl (i := c) (g := g) (q := cell s.on c g - n) hx8'.out.drew hco hgr er'.out rfl rfl (fun w9 hx9 hst9 => ?_)
    refine wpList_nil ?_
    have h09 := h08.drew.trans (hst9.below (B := W0.heap.size) (fun q hq => by omega) h08.drew.size)
    have hx9' := Lib.hid (show Bx w9 base bx 31 [] V9 { pk1 s c g n with holds := withHold s.holds ⟨i, j, c, 0⟩ } from hx9)
    clear hx9 hst9 c0 f0 r0 rc hw1 hx8' h08 er'
    obtain ⟨gu2, cu2, curu2, eu2, hgu2, hbu2, ru⟩ := OwnSt.intAtOwn hx9'.out.own.out (g := g) hgo
    change w9.cell? _ = some (.int .i64 (intAt s.out g)) at ru
    change V9.out = .slice _ s.out.length _ at eu2
    obtain ⟨_, f0, _⟩ := hx9'.out.own.lineCells (o := i) (k := j) hi hj e19.out
    change w9.cell? _ = some (.int .i64 (s.line i j).good) at f0
    rw [hg] at f0
    obtain ⟨_, _, _, _, _, c5, _⟩ := hx9'.out.cells
    rw [eu2] at c5
    have eu' := Lib.hid eu2
    clear eu2 hbu2
    go_wp2_with fail
    go_still_tail 11, (by kernel_rfl)
    change wpList _ _ _ _ _ w9.drew
    refine wp_st_out rfl (.tmp 100) (.tmp 99) rfl rfl (g := g) (q := intAt s.out g + n) hx9'.out.drew hgo eu'.out rfl rfl (fun w10 hx10 hst10 => ?_)
    refine wpList_nil ?_
    have h010 := h09.drew.trans (hst10.below (B := W0.heap.size) (fun q hq => by omega) h09.drew.size)
    have hx10' := Lib.hid (show Bx w10 base bx 31 [] V9 (preS s i j c n) by rw [← pk_pre hgt]; exact hx10)
    clear hx10 hst10 c5 f0 ru hx9' h09 eu'
    have hln := (hsn.out.line hi hj).2
    obtain ⟨gd, wt, gt, bk, hxl⟩ : ∃ gd wt gt bk, s.line i j = ⟨gd, wt, gt, bk⟩ := ⟨_, _, _, _, rfl⟩
    rw [hxl] at hln hg
    have hxl' := Lib.hid hxl
    simp only at hln hg
    subst hg
    obtain ⟨held, hheld⟩ : ∃ x, keptAt s.holds i j c = x := ⟨_, rfl⟩
    rw [hheld] at hh1 hh2 hn0
    have hheld' := Lib.hid hheld
    have hw2 : IntKind.i64.wrap (gt + n) = gt + n := IntWalk.i64_in _ (by omega)
    have hw5 : IntKind.i64.wrap (held - n) = held - n := IntWalk.i64_in _ (by omega)
    have hw4 : IntKind.i64.wrap (bk + (held - n)) = bk + (held - n) := IntWalk.i64_in _ (by omega)
    obtain ⟨_, f0, f1, f2, f3⟩ := hx10'.out.own.lineCells (o := i) (k := j) hi hj e19.out
    change w10.cell? _ = some (.int .i64 (s.line i j).got) at f2
    rw [hxl] at f2
    rw [hheld]
    clear hheld f0 f1 f3 hxl
    go_wp2_with (refine wp_st_line rfl (.tmp 108) (.tmp 106) rfl rfl (i := i) (k := j) (j := 2) (y := ⟨g, wt, gt + n, bk⟩) hx10'.out hi hj e19.out (by decide) (show cLine ⟨g, wt, gt + n, bk⟩ = (cLine (s.line i j)).set 2 (.int .i64 (gt + n)) by rw [hxl'.out]; rfl) rfl rfl (fun w11 hx11 hst11 => ?_); refine Hid.out ?_)
    unfold Hid
    have h011 := h010.trans (hst11.below (B := W0.heap.size) (fun q hq => by omega) h010.size)
    have hx11' := Lib.hid hx11
    have hl11 := Lib.hid (show ((preS s i j c n).setLine i j ⟨g, wt, gt + n, bk⟩).line i j = ⟨g, wt, gt + n, bk⟩ by rw [line_setLine (s := preS s i j c n) hi hj, if_pos ⟨rfl, rfl⟩])
    have hi11 : i < ((preS s i j c n).setLine i j ⟨g, wt, gt + n, bk⟩).orders.length := by rw [orders_setLine]; exact hi
    have hj11 : j < (((preS s i j c n).setLine i j ⟨g, wt, gt + n, bk⟩).order i).lines.length := by rw [lines_setLine (s := preS s i j c n) hi]; exact hj
    clear hx11 hst11 f2 hx10' h010 hw2
    obtain ⟨_, f0, f1, f2, f3⟩ := hx11'.out.own.lineCells hi11 hj11 e19.out
    rw [hl11.out] at f3
    clear f0 f1 f2
    go_wp2_with (refine wp_st_line rfl (.tmp 118) (.tmp 116) rfl rfl (i := i) (k := j) (j := 3) (y := ⟨g, wt, gt + n, bk + (held - n)⟩) hx11'.out hi11 hj11 e19.out (by decide) (by rw [hl11.out]; rfl) rfl rfl (fun w12 hx12 hst12 => ?_); refine Hid.out ?_)
    unfold Hid
    have h012 := h011.trans (hst12.below (B := W0.heap.size) (fun q hq => by omega) h011.size)
    have hx12' := Lib.hid (show Bx w12 base bx 31 [] V9 (picked s i j c held n) by rw [← picked_steps (s := s) (n := n) (held := held) (c := c) (j := j) hi ⟨g, wt, gt + n, bk⟩, hxl'.out]; exact hx12)
    clear hx12 hst12 f3 hx11' h011 hw4 hl11 hi11 hj11
    have hr12 := Lib.hid (show Right p (picked s i j c held n) by rw [← hheld'.out]; exact picked_right (right_of_check hc'.out) hF.out)
    have hm12 := Lib.hid (show May (picked s i j c held n) i j (held - n) by rw [← hheld'.out]; exact picked_may (right_of_check hc'.out) hF.out)
    have hB12 := hb0.trans (h012.mono hb0.size)
    obtain ⟨⟨y0, y1⟩, x0, x1, x2, x3, x4, x5, x6, hbz0, hbz1⟩ := hK.out w12 (h012)
    have hbs : base ≤ w12.heap.size := Nat.le_trans hle5 (Nat.le_of_lt hx12'.out.lt)
    go_wp2_with fail
    clear y0 y1 x0 x1 x2 x3 x4 x5 x6 hbz0 hbz1
    clear hw5
    refine (alHold _ _ p _ i j (held - n) c (hP'.out _ hB12) hr12.out hm12.out hx12'.out hbs).mono ?_
    rintro e w14 ⟨rfl, V7, hsb7, hx14, hst14⟩
    have hge : ∀ q, (q = bx ∨ (V9.line i).ownBlock = some q) → base ≤ q := fun q hq => by
      rcases hq with rfl | hq
      · exact hle5
      · exact ((hx12'.out.own.line i (show i < (picked s i j c held n).orders.length by rw [picked_orders]; exact hi)).size q hq).1
    have h014 := h012.trans (hst14.below (B := W0.heap.size) (fun q hq => Nat.le_trans hle0 (hge q hq)) h012.size)
    have hx14' := Lib.hid (show Bx w14 base bx 31 [] V7 (pickT p s i j c n) by unfold pickT; rw [hheld'.out]; exact hx14)
    have eo7 := Lib.hid (show V7.orders = .slice (some ⟨go, 0, none⟩) s.orders.length co by rw [hsb7]; exact eo9.out)
    clear hx14 hst14 hsb7 hge hx12' h012 hB12 hr12 hm12 eo9 e19
    have hTh := (pickT_held (right_of_check hc'.out) hF.out).1
    have hTi : i < (pickT p s i j c n).orders.length := by rw [hTh.orders, picked_orders]; exact hi
    have hTs := Lib.hid hTh.right.sane
    have hfin2 := Lib.hid (show pick p s i j c n = (close (pickT p s i j c n) i, 0) from hfin.out)
    clear hTh hF hfin
    generalize pickT p s i j c n = T at hx14' hTi hTs hfin2
    have l13 := hTs.out.lines3 hTi
    obtain ⟨_, _, _, z1⟩ := hx14'.out.own.orderCells hTi eo7.out
    have hsl := Lib.hid ((hx14'.out.own.line i hTi).sl (by omega))
    go_wp2_with fail
    clear z1
    refine (containsFuncLine _ _ (T.order i).lines 102 #[] (fun x => decide (x.got < x.want)) entersPkLacks hsl.out (fun j _ W hW => pkLacks _ W)).mono ?_
    rintro e W15 ⟨rfl, h15⟩
    rw [allGot_any hTs.out hTi]
    have hx := Lib.hid (hx14'.out.below h15)
    have h0r := h014.trans (h15.mono h014.size)
    have hB0r := hb0.trans (h0r.mono hb0.size)
    clear hsl hx14' h014 h15
    cases hag : allGot (T.order i)
    · have hfin := Lib.hid (show pick p s i j c n = (T, 0) by rw [hfin2.out]; unfold close; rw [hag]; rfl)
      clear hag hfin2
      have hbx9 := hR.out _ h0r
      obtain ⟨b0, b1, b2, b3, b4, b5, b6⟩ := BoxAt.cells hx.out.boxAt
      have hone9 := OwnSt.one hx.out.own
      go_wp2_with (refine wpList_store_state rfl (.tmp 12) (.tmp 136) rfl rfl (w.heap.size + 1 + 1) nilSV V7 hbx9 rfl rfl hone9 (fun w9 hbox9 hg9 => ?_))
      have hO9 := OwnSt.keptBy hx.out.own hg9 hbx9 (by decide) (by decide) (by decide) (by decide) (by decide) (by decide)
      obtain ⟨p0, p1, p2, p3, p4, p5, p6⟩ := BoxAt.cells hbox9
      have hfin9 : Below w.heap.size w w9 := Below.grown hB0r hg9 (Below.size hB0r) (fun k hk => by injection hk with hk; omega)
      clear b0 b1 b2 b3 b4 b5 b6
      go_wp2_with fail
      exact bodyPost_ret (v := .tuple #[SV.val V7, .int .i64 0]) (by simp [results, Tryz.results48, go_sem, SV.val, p0, p1, p2, p3, p4, p5, p6]) rfl (actOk hfin.out (hO9.from_ hle) hfin9)
    · have hfin := Lib.hid (show pick p s i j c n = ({ T with orders := T.orders.set i { T.order i with kind := 2 } }, 0) by rw [hfin2.out]; unfold close; rw [hag]; rfl)
      clear hag hfin2
      obtain ⟨_, _, z0, _⟩ := hx.out.own.orderCells hTi eo7.out
      go_wp2_with (refine wp_st_kind rfl (.tmp 135) (.const (.int .i64 2)) rfl rfl (i := i) (q := 2) hx.out hTi eo7.out rfl rfl (fun w16 hx16 hst16 => ?_); refine Hid.out ?_)
      unfold Hid
      have h016 := h0r.trans (hst16.below (B := W0.heap.size) (fun q hq => by omega) h0r.size)
      have hB16 := hb0.trans (h016.mono hb0.size)
      have hx16' := Lib.hid hx16
      clear hx16 hst16 z0
      have hbx9 := hR.out _ h016
      obtain ⟨b0, b1, b2, b3, b4, b5, b6⟩ := BoxAt.cells hx16'.out.boxAt
      have hone9 := OwnSt.one hx16'.out.own
      go_wp2_with (refine wpList_store_state rfl (.tmp 12) (.tmp 136) rfl rfl (w.heap.size + 1 + 1) nilSV V7 hbx9 rfl rfl hone9 (fun w9 hbox9 hg9 => ?_))
      have hO9 := OwnSt.keptBy hx16'.out.own hg9 hbx9 (by decide) (by decide) (by decide) (by decide) (by decide) (by decide)
      obtain ⟨p0, p1, p2, p3, p4, p5, p6⟩ := BoxAt.cells hbox9
      have hfin9 : Below w.heap.size w w9 := Below.grown hB16 hg9 (Below.size hB16) (fun k hk => by injection hk with hk; omega)
      clear b0 b1 b2 b3 b4 b5 b6
      go_wp2_with fail
      exact bodyPost_ret (v := .tuple #[SV.val V7, .int .i64 0]) (by simp [results, Tryz.results48, go_sem, SV.val, p0, p1, p2, p3, p4, p5, p6]) rfl (actOk hfin.out (hO9.from_ hle) hfin9)
  · have hne : (checkState p s != 0) = true := by simpa using hc
    have hfin := Lib.hid (pick_bad (o := o) (k := k) (b := b) (n := n) hc)
    clear hc
    have hbx9 := hR.out _ h1
    go_wp2_with (refine wpList_store_state rfl (.tmp 12) (.tmp 26) rfl rfl (w.heap.size + 1 + 1) nilSV nilSV hbx9 rfl rfl rfl (fun w9 hbox9 hg9 => ?_))
    obtain ⟨p0, p1, p2, p3, p4, p5, p6⟩ := BoxAt.cells hbox9
    have hfin9 : Below w.heap.size w w9 := Below.grown hB1 hg9 (Below.size hB1) (fun k hk => by injection hk with hk; omega)
    go_wp2_with fail
    exact bodyPost_ret (v := .tuple #[nilSV.val, .int .i64 (checkState p s)]) (by simp [results, Tryz.results48, go_sem, SV.val, p0, p1, p2, p3, p4, p5, p6]) rfl (actErr hfin.out hfin9)
end Wh
namespace Wh
open Go Go.RowKit Go.Shelf Go.Proofs
attribute [local go_sem] run_indexAt_letter evL_tmp evL_const evL_func

def mv2 (s : State) (a d g : Nat) (n : Int) : State := { pk1 s a g n with on := setCell (pk1 s a g n).on d g (cell (pk1 s a g n).on d g + n) }
theorem moved_mv {s : State} {i a d g : Nat} {m n : Int} (h : moveAt s.moves i = ⟨g, a, d, m⟩) : ({ mv2 s a d g n with moves := s.moves.eraseIdx i } : State) = movedS s i n := by
  unfold movedS
  rw [h]
  rfl

set_option maxHeartbeats 8000000 in
set_option maxRecDepth 100000 in
theorem flMoved (w : World) (v vs : Value) (p : Plan) (s : State) (k n : Int) (hp : PlanV w w.heap.size v p) (hv : StateV w w.heap.size vs s) :
    Calls Tryz.prog 50 #[v, vs, .int .i64 k, .int .i64 n] w (ActPost (moved p s k n) w) := by
  obtain ⟨Ab, cb, As, cs, rfl, hP', hBn, hSz, hlb, hls⟩ := openPl hp
  obtain ⟨A0, c0, A1, c1, A2, c2, A3, c3, A4, c4, A5, c5, A6, c6, rfl, hV, hN, hO, hH, hM, hI, hU, hX, hl0, hl1, hl2, hl3, hl4, hl5, hl6⟩ := openOne hv
  go_enter Tryz.func50, Tryz.ntmps50
  go_wp2_with fail
  obtain ⟨W0, hW0, hb0, hsz0, hsz1, hsE, hK, hR⟩ := boxesAct w p s Ab cb As cs A0 c0 A1 c1 A2 c2 A3 c3 A4 c4 A5 c5 A6 c6
  rw [hW0]
  clear hW0
  obtain ⟨⟨y0, y1⟩, x0, x1, x2, x3, x4, x5, x6, hbz0, hbz1⟩ := hK.out W0 (Below.refl W0.heap.size W0)
  go_wp2_with fail
  clear y0 y1 x0 x1 x2 x3 x4 x5 x6 hbz0 hbz1
  refine (sCheck _ _ _ p s (hP'.out _ hb0) (hV.out _ hb0)).mono ?_
  rintro e W1 ⟨rfl, h1⟩
  have hB1 := hb0.trans (h1.mono hb0.size)
  obtain ⟨⟨y0, y1⟩, x0, x1, x2, x3, x4, x5, x6, hbz0, hbz1⟩ := hK.out W1 (h1)
  by_cases hc : checkState p s = 0
  · have hc' := Lib.hid hc
    have hsn := Lib.hid (checkState_zero.1 hc).1
    rw [hc]
    clear hc
    by_cases g1 : k < 0
    · have hfin := Lib.hid (moved_none (n := n) hc'.out (.inl g1))
      have hbx9 := hR.out _ h1
      go_wp2_with (refine wpList_store_state rfl (.tmp 8) (.tmp 29) rfl rfl (w.heap.size + 1 + 1) nilSV nilSV hbx9 rfl rfl rfl (fun w9 hbox9 hg9 => ?_))
      obtain ⟨p0, p1, p2, p3, p4, p5, p6⟩ := BoxAt.cells hbox9
      have hfin9 : Below w.heap.size w w9 := Below.grown hB1 hg9 (Below.size hB1) (fun k hk => by injection hk with hk; omega)
      go_wp2_with fail
      exact bodyPost_ret (v := .tuple #[nilSV.val, .int .i64 4]) (by simp [results, Tryz.results50, go_sem, SV.val, p0, p1, p2, p3, p4, p5, p6]) rfl (actErr hfin.out hfin9)
    by_cases g2 : (s.moves.length : Int) ≤ k
    · have hfin := Lib.hid (moved_none (n := n) hc'.out (.inr g2))
      have hbx9 := hR.out _ h1
      go_wp2_with (refine wpList_store_state rfl (.tmp 8) (.tmp 29) rfl rfl (w.heap.size + 1 + 1) nilSV nilSV hbx9 rfl rfl rfl (fun w9 hbox9 hg9 => ?_))
      obtain ⟨p0, p1, p2, p3, p4, p5, p6⟩ := BoxAt.cells hbox9
      have hfin9 : Below w.heap.size w w9 := Below.grown hB1 hg9 (Below.size hB1) (fun k hk => by injection hk with hk; omega)
      go_wp2_with fail
      exact bodyPost_ret (v := .tuple #[nilSV.val, .int .i64 4]) (by simp [results, Tryz.results50, go_sem, SV.val, p0, p1, p2, p3, p4, p5, p6]) rfl (actErr hfin.out hfin9)
    obtain ⟨i, rfl⟩ : ∃ i : Nat, k = i := ⟨k.toNat, by omega⟩
    have hk : i < s.moves.length := by omega
    have hki : (i : Int) < (s.moves.length : Int) := by omega
    have h8 := hsn.out.moves8
    obtain ⟨gd, sr, ds, mn, hxm⟩ : ∃ gd sr ds mn, moveAt s.moves i = ⟨gd, sr, ds, mn⟩ := ⟨_, _, _, _, rfl⟩
    have hmv := hsn.out.moveAt hk
    rw [hxm] at hmv
    simp only at hmv
    obtain ⟨g, rfl⟩ : ∃ g : Nat, gd = g := ⟨gd.toNat, by omega⟩
    obtain ⟨a, rfl⟩ : ∃ a : Nat, sr = a := ⟨sr.toNat, by omega⟩
    obtain ⟨d, rfl⟩ : ∃ d : Nat, ds = d := ⟨ds.toNat, by omega⟩
    have hgp : g < p.sizes.length := by omega
    have hap : a < p.bins.length := by omega
    have hdp : d < p.bins.length := by omega
    have had : a ≠ d := by omega
    have hao : a < s.on.length := by rw [hsn.out.onLen]; exact hap
    have hdo : d < s.on.length := by rw [hsn.out.onLen]; exact hdp
    have hga : g < (rowAt s.on a).length := by rw [hsn.out.rowLen hap]; exact hgp
    have hgd : g < (rowAt s.on d).length := by rw [hsn.out.rowLen hdp]; exact hgp
    have hai : (a : Int) < (s.on.length : Int) := by omega
    have hdi : (d : Int) < (s.on.length : Int) := by omega
    have hgai : (g : Int) < ((rowAt s.on a).length : Int) := by omega
    have hgdi : (g : Int) < ((rowAt s.on d).length : Int) := by omega
    have hca := hsn.out.cell hap hgp
    have hcd := hsn.out.cell hdp hgp
    have hxm' := Lib.hid hxm
    obtain ⟨okm, lm, e0, e1, e2, e3⟩ := (hM.out W1 hB1).at_.move hk
    rw [hxm] at e0 e1 e2 e3
    simp only at e0 e1 e2 e3
    have h1a := h1.alloc h1.size (.cells #[.int .i64 g, .int .i64 a, .int .i64 d, .int .i64 mn] 48)
    have hB1a := hB1.alloc hB1.size (.cells #[.int .i64 g, .int .i64 a, .int .i64 d, .int .i64 mn] 48)
    clear hxm
    by_cases g3 : n < 0
    · have hfin := Lib.hid (moved_range (n := n) hc'.out hk (.inl g3))
      have hbx9 := hR.out _ h1a
      go_wp2_with (refine wpList_store_state rfl (.tmp 8) (.tmp 43) rfl rfl (w.heap.size + 1 + 1) nilSV nilSV hbx9 rfl rfl rfl (fun w9 hbox9 hg9 => ?_))
      obtain ⟨p0, p1, p2, p3, p4, p5, p6⟩ := BoxAt.cells hbox9
      have hfin9 : Below w.heap.size w w9 := Below.grown hB1a hg9 (Below.size hB1a) (fun k hk => by injection hk with hk; omega)
      go_wp2_with fail
      exact bodyPost_ret (v := .tuple #[nilSV.val, .int .i64 3]) (by simp [results, Tryz.results50, go_sem, SV.val, p0, p1, p2, p3, p4, p5, p6]) rfl (actErr hfin.out hfin9)
    by_cases g4 : mn < n
    · have hfin := Lib.hid (moved_range (n := n) hc'.out hk (.inr (by rw [hxm'.out]; exact g4)))
      have hbx9 := hR.out _ h1a
      go_wp2_with (refine wpList_store_state rfl (.tmp 8) (.tmp 43) rfl rfl (w.heap.size + 1 + 1) nilSV nilSV hbx9 rfl rfl rfl (fun w9 hbox9 hg9 => ?_))
      obtain ⟨p0, p1, p2, p3, p4, p5, p6⟩ := BoxAt.cells hbox9
      have hfin9 : Below w.heap.size w w9 := Below.grown hB1a hg9 (Below.size hB1a) (fun k hk => by injection hk with hk; omega)
      go_wp2_with fail
      exact bodyPost_ret (v := .tuple #[nilSV.val, .int .i64 3]) (by simp [results, Tryz.results50, go_sem, SV.val, p0, p1, p2, p3, p4, p5, p6]) rfl (actErr hfin.out hfin9)
    have hbl1 := Lib.hid (Blk.new W1 48 #[.int .i64 g, .int .i64 a, .int .i64 d, .int .i64 mn])
    obtain ⟨Ar, cr, or0, lr0, rr0, hrow⟩ := (hN.out W1 hB1).row hdo
    obtain ⟨or1, lr1, rr1⟩ := hrow.at_.int hgd
    change W1.cell? _ = some (.int .i64 (cell s.on d g)) at rr1
    have hw0 : IntKind.i64.wrap (cell s.on d g + n) = cell s.on d g + n := IntWalk.i64_in _ (by omega)
    by_cases hm : 200 < cell s.on d g + n
    · have hfin := Lib.hid (moved_many (n := n) hc'.out hk (by rw [hxm'.out]; exact ⟨by omega, by simp only; omega⟩) (by rw [hxm'.out]; simp only [Int.toNat_natCast]; exact hm))
      go_wp2_with fail
      go_quiet (fail)
      have h0d := below_drewN h1a nq
      have hBd := below_drewN hB1a nq
      clear y0 y1 x0 x1 x2 x3 x4 x5 x6 hbz0 hbz1
      clear e0 e1 e2 e3 okm lm or0 lr0 rr0 hrow or1 lr1 rr1 hbl1 h1a hB1a
      generalize (W1.alloc (.cells #[.int .i64 g, .int .i64 a, .int .i64 d, .int .i64 mn] 48)).drewN nq = W4 at h0d hBd ⊢
      have hbx9 := hR.out _ h0d
      go_wp2_with (refine wpList_store_state rfl (.tmp 8) (.tmp 57) rfl rfl (w.heap.size + 1 + 1) nilSV nilSV hbx9 rfl rfl rfl (fun w9 hbox9 hg9 => ?_))
      obtain ⟨p0, p1, p2, p3, p4, p5, p6⟩ := BoxAt.cells hbox9
      have hfin9 : Below w.heap.size w w9 := Below.grown hBd hg9 (Below.size hBd) (fun k hk => by injection hk with hk; omega)
      go_wp2_with fail
      exact bodyPost_ret (v := .tuple #[nilSV.val, .int .i64 2]) (by simp [results, Tryz.results50, go_sem, SV.val, p0, p1, p2, p3, p4, p5, p6]) rfl (actErr hfin.out hfin9)
    have hmd := decide_eq_false hm
    have hfin := Lib.hid (moved_ok (n := n) hc'.out ⟨hk, by omega, by rw [hxm'.out]; simp only; omega, by rw [hxm'.out]; simp only [Int.toNat_natCast]; omega⟩)
    go_wp2_with fail
    go_quiet (fail)
    have h0d := below_drewN h1a nq
    have hBd := below_drewN hB1a nq
    have hbl4 := Lib.hid (hbl1.out.below (below_drewN (Below.refl _ _) nq) hbl1.out.lt)
    clear y0 y1 x0 x1 x2 x3 x4 x5 x6 hbz0 hbz1
    clear e0 e1 e2 e3 okm lm or0 lr0 rr0 hrow or1 lr1 rr1 hbl1 h1a hB1a hw0 hmd
    generalize W1.heap.size = wl at hbl4 ⊢
    generalize (W1.alloc (.cells #[.int .i64 g, .int .i64 a, .int .i64 d, .int .i64 mn] 48)).drewN nq = W4 at h0d hBd hbl4 ⊢
    obtain ⟨⟨y0, y1⟩, x0, x1, x2, x3, x4, x5, x6, hbz0, hbz1⟩ := hK.out W4 (h0d)
    go_wp2_with fail
    clear y0 y1 x0 x1 x2 x3 x4 x5 x6 hbz0 hbz1
    refine (sOwn _ _ p s (hV.out _ hBd) hsn.out).mono ?_
    rintro e W5 ⟨_, rfl, ⟨V5, rfl, ho5⟩, h5⟩
    have hone6 := (ho5).one
    have hnb6 := newBox (W5)
    go_wp2_with (refine wpList_store_state rfl (.tmp 12) (.tmp 59) rfl rfl (World.heap (W5)).size nilSV V5 hnb6 rfl rfl hone6 (fun w6 hbox6 hg6 => ?_); refine Hid.out ?_)
    unfold Hid
    have hbb6 := newBelow hg6
    have hbl6 := hbox6.lt
    clear hone6 hnb6 hg6
    have h56 := h5.trans (hbb6.mono h5.size)
    have hx6 := Lib.hid (Bx.of hbox6 (ho5.below hbb6))
    have h06 := h0d.trans (h56.mono h0d.size)
    have hbl6 := Lib.hid (hbl4.out.below h56 hbl4.out.lt)
    have hlw : wl < W4.heap.size := hbl4.out.lt
    have hle : w.heap.size ≤ W4.heap.size := hBd.size
    have hle0 : W0.heap.size ≤ W4.heap.size := h0d.size
    have hle5 : W4.heap.size ≤ W5.heap.size := h5.size
    clear hbox6 ho5 hbb6 h5 hbl4 h0d hBd h56
    have hlw6 : wl < w6.heap.size := hbl6.out.lt
    generalize W4.heap.size = base at hx6 hle hle0 hle5 hlw
    generalize W5.heap.size = bx at hx6 hle5 ⊢
    have hble : base ≤ bx := hle5
    have hcd1 : cell (pk1 s a g n).on d g = cell s.on d g := by
      show cell (setCell s.on a g _) d g = _
      rw [cell_setCell hao hga, if_neg (by omega)]
    have hw1 : IntKind.i64.wrap (cell s.on a g - n) = cell s.on a g - n := IntWalk.i64_in _ (by omega)
    have hw2 : IntKind.i64.wrap (cell s.on d g + n) = cell s.on d g + n := IntWalk.i64_in _ (by omega)
    obtain ⟨gon, con, cur0, gr, cr, cur, eon, hgon, hbn0, r0, er, hgrb, hbr, rc⟩ := hx6.out.own.onAt hao hga
    have c0 := hx6.out.cells.1
    rw [eon] at c0
    have er' := Lib.hid er
    clear eon er hbn0 hbr
    have m0 := hbl6.out.cell (j := 0) rfl
    have m1 := hbl6.out.cell (j := 1) rfl
    go_wp2_with fail
    go_still_tail 13, (by kernel_rfl)
    change wpList _ _ _ _ _ w6.drew
    refine wp_st_on rfl (.tmp 72) (.tmp 71) rfl rfl (i := a) (g := g) (q := cell s.on a g - n) hx6.out.drew hao hga er'.out rfl rfl (fun w7 hx7 hst7 => ?_)
    refine wpList_nil ?_
    have h07 := h06.drew.trans (hst7.below (B := W0.heap.size) (fun q hq => by omega) h06.drew.size)
    have hx7' := Lib.hid (show Bx w7 base bx 31 [] V5 (pk1 s a g n) from hx7)
    have hbl7 := Lib.hid (hst7.blk (show Blk w6.drew wl 48 _ from hbl6.out) (by omega))
    clear hx7 hst7 c0 r0 rc m0 m1 hw1 hx6 h06 er' hbl6
    have hdo1 : d < (pk1 s a g n).on.length := by show d < (setCell _ _ _ _).length; rw [length_setCell]; exact hdo
    have hgd1 : g < (rowAt (pk1 s a g n).on d).length := by show g < (rowAt (setCell _ _ _ _) d).length; rw [rowlen_setCell]; exact hgd
    obtain ⟨gon, con, cur0, gr, cr, cur, eon, hgon, hbn0, r0, er, hgrb, hbr, rc⟩ := hx7'.out.own.onAt hdo1 hgd1
    rw [hcd1] at rc
    have c0 := hx7'.out.cells.1
    rw [eon] at c0
    have hl1 : (pk1 s a g n).on.length = s.on.length := length_setCell
    have hl2 : (rowAt (pk1 s a g n).on d).length = (rowAt s.on d).length := rowlen_setCell
    rw [hl1] at c0
    rw [hl2] at r0
    have er' := Lib.hid er
    clear eon er hbn0 hbr hl1 hl2
    have m0 := hbl7.out.cell (j := 0) rfl
    have m2 := hbl7.out.cell (j := 2) rfl
    go_wp2_with fail
    go_still_tail 13, (by kernel_rfl)
    change wpList _ _ _ _ _ w7.drew
    refine wp_st_on rfl (.tmp 85) (.tmp 84) rfl rfl (i := d) (g := g) (q := cell s.on d g + n) hx7'.out.drew hdo1 hgd1 er'.out rfl rfl (fun w8 hx8 hst8 => ?_)
    refine wpList_nil ?_
    have h08 := h07.drew.trans (hst8.below (B := W0.heap.size) (fun q hq => by omega) h07.drew.size)
    have hx8' := Lib.hid (show Bx w8 base bx 31 [] V5 (mv2 s a d g n) by unfold mv2; rw [hcd1]; exact hx8)
    clear hx8 hst8 c0 r0 rc m0 m2 hw2 hx7' h07 er' hbl7 hdo1 hgd1
    have hmo := Lib.hid hx8'.out.own.moves
    have c3 := hx8'.out.cells.2.2.2.1
    go_wp2_with fail
    clear c3
    refine (delMove _ base _ s.moves i hmo.out hk (by omega)).mono ?_
    rintro e w9 ⟨u, rfl, hu, hg9, hub⟩
    obtain ⟨A9, c9, rfl⟩ := hu.isSlice
    have hO9 := hx8'.out.own.wroteMoves hg9 hu
    have hbrow : some bx ≠ V5.moves.ownBlock := fun he => by
      rcases hx8'.out.own.moves.notBox hx8'.out.boxAt.blk (by decide) with h | h
      · rw [h] at he; cases he
      · exact h he.symm
    have hb9 := hx8'.out.boxAt.grown hg9 hbrow
    have h09 := h08.grown hg9 h08.size (fun r hr => by have := (hmo.out.size r hr).1; omega)
    have hb9' := Lib.hid hb9
    have hO9' := Lib.hid hO9
    clear hu hg9 hub hO9 hb9 hmo hx8' h08 hbrow
    go_wp2_with (refine wp_st_moves' rfl (.tmp 92) (.tmp 91) rfl rfl A9 (s.moves.eraseIdx i).length c9 (V := V5) (cs := []) (b := bx) (by rw [List.append_nil]; exact hb9'.out.blk) hO9'.out boxT rfl rfl rfl (fun w10 hx10 hst10 => ?_); refine Hid.out ?_)
    unfold Hid
    have hx10' := Lib.hid (show Bx w10 base bx 31 [] { V5 with moves := .slice A9 (s.moves.eraseIdx i).length c9 } (movedS s i n) by rw [← moved_mv hxm'.out]; exact hx10)
    have h010 := h09.trans (hst10.below (B := W0.heap.size) (fun q hq => by omega) h09.size)
    have hB10 := hb0.trans (h010.mono hb0.size)
    clear hx10 hst10 hb9' hO9' h09
    generalize ({ V5 with moves := .slice A9 (s.moves.eraseIdx i).length c9 } : SV) = V9 at hx10'
    have hbx9 := hR.out _ h010
    obtain ⟨b0, b1, b2, b3, b4, b5, b6⟩ := BoxAt.cells hx10'.out.boxAt
    have hone9 := OwnSt.one hx10'.out.own
    go_wp2_with (refine wpList_store_state rfl (.tmp 8) (.tmp 93) rfl rfl (w.heap.size + 1 + 1) nilSV V9 hbx9 rfl rfl hone9 (fun w9 hbox9 hg9 => ?_))
    have hO9 := OwnSt.keptBy hx10'.out.own hg9 hbx9 (by decide) (by decide) (by decide) (by decide) (by decide) (by decide)
    obtain ⟨p0, p1, p2, p3, p4, p5, p6⟩ := BoxAt.cells hbox9
    have hfin9 : Below w.heap.size w w9 := Below.grown hB10 hg9 (Below.size hB10) (fun k hk => by injection hk with hk; omega)
    clear b0 b1 b2 b3 b4 b5 b6
    go_wp2_with fail
    exact bodyPost_ret (v := .tuple #[SV.val V9, .int .i64 0]) (by simp [results, Tryz.results50, go_sem, SV.val, p0, p1, p2, p3, p4, p5, p6]) rfl (actOk hfin.out (hO9.from_ hle) hfin9)
  · have hne : (checkState p s != 0) = true := by simpa using hc
    have hfin := Lib.hid (moved_bad (k := k) (n := n) hc)
    clear hc
    have hbx9 := hR.out _ h1
    go_wp2_with (refine wpList_store_state rfl (.tmp 8) (.tmp 18) rfl rfl (w.heap.size + 1 + 1) nilSV nilSV hbx9 rfl rfl rfl (fun w9 hbox9 hg9 => ?_))
    obtain ⟨p0, p1, p2, p3, p4, p5, p6⟩ := BoxAt.cells hbox9
    have hfin9 : Below w.heap.size w w9 := Below.grown hB1 hg9 (Below.size hB1) (fun k hk => by injection hk with hk; omega)
    go_wp2_with fail
    exact bodyPost_ret (v := .tuple #[nilSV.val, .int .i64 (checkState p s)]) (by simp [results, Tryz.results50, go_sem, SV.val, p0, p1, p2, p3, p4, p5, p6]) rfl (actErr hfin.out hfin9)
end Wh
namespace Wh
open Go Go.RowKit Go.Shelf Go.Proofs

section
variable {P : Program} {ops : Array Oper} {md : Region.Mode} {C : World → Prop} {l₀ n : Nat}
def noDefer (ops : Array Oper) : Bool := ops.all fun o => match o.op with | .defer _ => false | _ => true
theorem noDefer_at {ops : Array Oper} (h : noDefer ops = true) {i : Nat} {o : Oper} (hi : ops[i]? = some o) (c : Call) : o.op ≠ .defer c := fun e => by
  unfold noDefer at h
  rw [Array.all_eq_true] at h
  obtain ⟨hl, rfl⟩ := Array.getElem?_eq_some_iff.1 hi
  have := h i hl
  rw [e] at this
  cases this
theorem wpIn_of_quietR {o : Oper} {a : Act} {K : Act → Prop} {K' : Act → World → Prop} {Q' : Exit → Act → World → Prop} {w : World} (hnd : ∀ c, o.op ≠ .defer c) (hw : C w) (h : ∀ a w', C w' → K a → K' a w')
    (hh : o.quiet P a C K) : o.wpIn (Fence.wide.inRound l₀) n P a w K' Q' := by
  obtain ⟨v, h1, h2⟩ := hh
  have h3 := h1 w hw
  unfold Oper.quietAt at h3
  unfold Oper.wpIn
  refine ⟨fun _ _ => trivial, ?_⟩
  rw [Oper.semAt_plain _ _ _ hnd]
  generalize (execOp a.eval o).run P w = r at *
  cases r with
  | ok x w' =>
    cases x <;> simp only [Oper.quietUpon] at h3 <;> simp only [Oper.uponIn]
    case value u =>
      obtain ⟨e1, e2⟩ := h3
      rw [e1, e2]
      exact h _ _ hw h2
    case skip =>
      obtain ⟨e1, e2⟩ := h3
      rw [e1, ← e2]
      exact h _ _ hw h2
    case enter f args =>
      obtain ⟨e1, hc⟩ := h3
      rw [e1]
      exact ⟨fun hd => (by cases hd), CallsIn.inRound l₀ (callsIn_wide.2 (hc.mono fun e w'' hh => by
        obtain ⟨he, hw''⟩ := hh
        subst he
        exact h _ _ hw'' h2))⟩
  | halt x w' => simp only [Oper.quietUpon] at h3
theorem wpOpIn_of_qOpR {i : Nat} {a : Act} {K : Act → Prop} {K' : Act → World → Prop} {Q' : Exit → Act → World → Prop} {w : World} (hnd : noDefer ops = true) (hC : C w) (h : ∀ a w', C w' → K a → K' a w')
    (hh : qOp P ops C i K a) : wpOpIn (Fence.wide.inRound l₀) n P ops Q' i K' a w := by
  unfold qOp at hh
  unfold wpOpIn
  split
  · rename_i ho; simp only [ho] at hh; exact h _ _ hC hh
  · rename_i o ho
    simp only [ho] at hh
    split
    · rename_i hw; simp only [hw, if_true] at hh; exact wpIn_of_quietR (noDefer_at hnd ho) hC h hh
    · rename_i hw; simp only [hw] at hh; exact ⟨fun _ _ => trivial, h _ _ hC hh⟩
theorem wpAnyIn_of_quietR {Q : Act → Prop} {Q' : Exit → Act → World → Prop} (hnd : noDefer ops = true) (hQ : ∀ a w, C w → Q a → Q' .normal a w) : ∀ (fuel : Nat) (listed : Array Bool) (a : Act) (w : World), C w →
    wpAnyQ P md ops C Q fuel listed a → wpAnyIn (Fence.wide.inRound l₀) n P md ops Q' fuel listed a w
  | 0, _, _, _, hw, h => ⟨h.1, hQ _ _ hw h.2⟩
  | fuel + 1, _, _, _, hw, h => ⟨fun h0 => hQ _ _ hw (h.1 h0), fun i hi => wpOpIn_of_qOpR hnd hw (fun a' w' hw' => wpAnyIn_of_quietR hnd hQ fuel _ a' w' hw') (h.2 i hi)⟩
theorem wpIn_region_quietR {id : Nat} {Q : Exit → Act → World → Prop} {a : Act} {w : World} (hnd : noDefer ops = true) (hm : P.follows .mixedOrders = true) (hB : Region.lexB .any ops = true) (hC : C { w with drawn := w.drawn + 1 })
    (h : wpQuiet P ops C (fun a' => ∀ w', C w' → Q .normal a' w') ops.toList a) : (Code.region id ops true).wpIn (Fence.wide.inRound l₀) n P Q a w := by
  simp only [Region.lexB, Bool.and_eq_true] at hB
  refine wpIn_region_any hm (wpAnyIn_of_quietR (Q := fun a' => ∀ w', C w' → Q .normal a' w') hnd (fun _ w' hw' h => h w' hw') _ _ _ _ hC ?_)
  have := wpAnyQ_lex (C := C) (md := .any) hB.1 ops.toList 0 (Array.replicate ops.size false) a (by simp) (by simpa using hB.2) h
  simpa using this
theorem wpIn_region_wld {id : Nat} {Q : Exit → Act → World → Prop} {a : Act} {w : World} {l : List Oper} (hnd : noDefer l.toArray = true) (hm : P.follows .mixedOrders = true) (hB : Region.lexB .any l.toArray = true)
    (h : wpQuiet P l.toArray (fun w' => ∃ p : GB, w' = wld w p.d p.os) (fun a' => ∀ w', (∃ p : GB, w' = wld w p.d p.os) → Q .normal a' w') l a) : (Code.region id l.toArray true).wpIn (Fence.wide.inRound l₀) n P Q a w :=
  wpIn_region_quietR (C := fun w' => ∃ p : GB, w' = wld w p.d p.os) hnd hm hB ⟨⟨w.drawn + 1, #[]⟩, by simp [wld]⟩ (by simpa using h)
end

/-- The moves' slice stored into the state's box, in a round. -/
theorem wpIn_st_moves {ops : Array Oper} {rest : List Oper} {o : Oper} {a : Act} {w : World} {Q : Exit → Act → World → Prop} {base b l₀ n0 : Nat} {t : TypeId} {cs : List Value} {V : SV}
    (hgd : o.guard = none) (x y : Operand) (ho : o.op = .store 29 x y) (hn : o.dst = none) (A : Option Addr) (n c : Nat) {V' : SV} {s' : State} (hk : Blk w b t (V.cells ++ cs)) (hO : OwnSt w base V' s') (hT : BoxT t) (hV : V'.cells ++ cs = (V.cells ++ cs).set 3 (.slice A n c))
    (hx : a.eval x = .pointer (some ⟨b, 3, none⟩)) (hy : a.eval y = .slice A n c) (h : ∀ w', Bx w' base b t cs V' s' → Step (· = b) w w' → wpListIn (Fence.wide.inRound l₀) n0 Tryz.prog ops Q rest a w') : wpListIn (Fence.wide.inRound l₀) n0 Tryz.prog ops Q (o :: rest) a w :=
  wpListIn_plain hgd fun K hK => by
    obtain ⟨h1, h2⟩ := Bx.set' hk hO hT 3 (.slice A n c) hV
    have h3 := h _ h1 (.of_grown h2 fun k hk => by injection hk with hk; exact hk.symm)
    have hc : w.cell? ⟨b, 3, none⟩ = some V.moves := hk.cell rfl
    have hf := hk.frozen 3
    clear h hk hO h1 h2 hV
    unfold Oper.wpIn
    refine ⟨fun _ _ => trivial, ?_⟩
    rw [Oper.semAt_plain _ _ _ (fun c => by rw [ho]; intro e; cases e)]
    simp only [execOp, ho, hx, hy]
    go_simp
    rw [hn] at *
    exact hK _ _ h3
end Wh
namespace Wh

section
variable {p : Plan} {s : State}
theorem fill1_full {t : State} {b g f : Nat} (h : 8 ≤ t.moves.length) : fill1 p t b g f = t := by unfold fill1; rw [if_pos h]
theorem fill1_some {t : State} {b g f : Nat} (h : ¬ 8 ≤ t.moves.length) (h2 : 0 < fillN p t b g f) : fill1 p t b g f = addMove t ⟨g, f, b, fillN p t b g f⟩ := by unfold fill1; rw [if_neg h, if_pos h2]; rfl
theorem fill1_none {t : State} {b g f : Nat} (h : ¬ 8 ≤ t.moves.length) (h2 : ¬ 0 < fillN p t b g f) : fill1 p t b g f = t := by unfold fill1; rw [if_neg h, if_neg h2]
end
end Wh
