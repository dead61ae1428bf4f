/- Texts of the claim, joined: PickB, PickC. -/
import Derived.Test.YtijilfghfahgjaaQ22
import Derived.Test.YtijilfghfahgjaaQ19
namespace Wh
open Go Go.RowKit Go.Shelf Go.Proofs
attribute [local go_sem] run_indexAt_letter evL_tmp evL_const evL_func

theorem drop_zero {l : List Hold} {o k b : Int} (hok : holdsOk l = true) (h : keptAt l o k b = 0) : drop l o k b = ([], 0, 4) := by
  unfold drop
  rw [hok, if_neg (by simp), if_pos h]
theorem drop_some {l : List Hold} {o k b : Int} (hok : holdsOk l = true) (h : keptAt l o k b ≠ 0) : drop l o k b = (withHold l ⟨o, k, b, 0⟩, keptAt l o k b, 0) := by
  unfold drop
  rw [hok, if_neg (by simp), if_neg h]
theorem hdDropAt {l x : List Hold} {o ln b m c : Int} (h : drop l o ln b = (x, m, c)) (w : World) (v : Value) (hv : Sl cHold w w.heap.size v l) :
    Calls Try.prog 31 #[v, .int .i64 o, .int .i64 ln, .int .i64 b] w fun e w' => ∃ u, e = .returned (.tuple #[u, .int .i64 m, .int .i64 c]) ∧ Own cHold 4 63 w' w.heap.size u x ∧ Below w.heap.size w w' := by
  have := hdDrop w v l o ln b hv
  unfold DropPost at this
  rw [h] at this
  exact this
theorem setLine_twice (s : State) (i j : Nat) (y z : Line) (hi : i < s.orders.length) : (s.setLine i j y).setLine i j z = s.setLine i j z := by
  unfold State.setLine
  simp only
  have h : State.order { s with orders := s.orders.set i { s.order i with lines := (s.order i).lines.set j y } } i = { s.order i with lines := (s.order i).lines.set j y } := by
    unfold State.order
    rw [orderAt_set hi, if_pos rfl]
  rw [h]
  simp only [List.set_set]
theorem picked_steps {s : State} {i j c : Nat} {n held : Int} (hi : i < s.orders.length) (y : Line) :
    ((preS s i j c n).setLine i j y).setLine i j { s.line i j with got := (s.line i j).got + n, back := (s.line i j).back + (held - n) } = picked s i j c held n := by
  rw [setLine_twice (preS s i j c n) i j _ _ hi, picked_eq, show (s.line i j).back + (held - n) = (s.line i j).back + held - n by omega]
set_option maxHeartbeats 1000000 in
/-- Pick's closure: a line that lacks some. -/
theorem pkLacks (x : Line) (W : World) : Calls Try.prog 60 #[vLine x] W fun e W' => e = .returned (.bool (decide (x.got < x.want))) ∧ Below W.heap.size W W' := by
  have hb0 : Below W.heap.size W (W.alloc (.cells #[.int .i64 (x).good, .int .i64 (x).want, .int .i64 (x).got, .int .i64 (x).back] 56)) := (Below.refl _ _).alloc (Nat.le_refl _) _
  unfold vLine
  go_enter Try.func60, Try.ntmps60
  go_wp2_with fail
  go_ret
  exact ⟨rfl, hb0⟩
theorem entersPkLacks : Enters Try.prog 60 := enters_of Try.func60 (by kernel_rfl) rfl

set_option maxHeartbeats 8000000 in
set_option maxRecDepth 100000 in
theorem pkPick (w : World) (v vs : Value) (p : Plan) (s : State) (o k b n : Int) (hp : PlanV w w.heap.size v p) (hv : StateV w w.heap.size vs s) :
    Calls Try.prog 22 #[v, vs, .int .i64 o, .int .i64 k, .int .i64 b, .int .i64 n] w (ActPost (pick p s o k b n) w) := by
  obtain ⟨Ab, cb, As, cs, rfl, hP', hBn, hSz, hlb, hls⟩ := openPl hp
  obtain ⟨A0, c0, A1, c1, A2, c2, A3, c3, A4, c4, A5, c5, A6, c6, rfl, hV, hN, hO, hH, hM, hI, hU, hX, hl0, hl1, hl2, hl3, hl4, hl5, hl6⟩ := openOne hv
  go_enter Try.func22, Try.ntmps22
  go_wp2_with fail
  obtain ⟨W0, hW0, hb0, hsz0, hsz1, hsE, hK, hR⟩ := boxesAct w p s Ab cb As cs A0 c0 A1 c1 A2 c2 A3 c3 A4 c4 A5 c5 A6 c6
  rw [hW0]
  clear hW0
  obtain ⟨⟨y0, y1⟩, x0, x1, x2, x3, x4, x5, x6, hbz0, hbz1⟩ := hK.out W0 (Below.refl W0.heap.size W0)
  go_wp2_with fail
  clear y0 y1 x0 x1 x2 x3 x4 x5 x6 hbz0 hbz1
  refine (sCheck _ _ _ p s (hP'.out _ hb0) (hV.out _ hb0)).mono ?_
  rintro e W1 ⟨rfl, h1⟩
  have hB1 := hb0.trans (h1.mono hb0.size)
  obtain ⟨⟨y0, y1⟩, x0, x1, x2, x3, x4, x5, x6, hbz0, hbz1⟩ := hK.out W1 (h1)
  by_cases hc : checkState p s = 0
  · have hc' := Lib.hid hc
    have hsn := Lib.hid (checkState_zero.1 hc).1
    rw [hc]
    clear hc
    by_cases hk0 : keptAt s.holds o k b = 0
    · have hfin := Lib.hid (pick_none (n := n) hc'.out hk0)
      have hdr := Lib.hid (drop_zero hsn.out.holds hk0)
      clear hk0
      go_wp2_with fail
      clear y0 y1 x0 x1 x2 x3 x4 x5 x6 hbz0 hbz1
      refine (hdDropAt hdr.out _ _ (hH.out _ hB1)).mono ?_
      rintro e W2 ⟨u, rfl, hu, h2⟩
      have h02 := h1.trans (h2.mono h1.size)
      have hB2 := hb0.trans (h02.mono hb0.size)
      have hbx9 := hR.out _ h02
      go_wp2_with (refine wpList_store_state rfl (.tmp 12) (.tmp 40) rfl rfl (w.heap.size + 1 + 1) nilSV nilSV hbx9 rfl rfl rfl (fun w9 hbox9 hg9 => ?_))
      obtain ⟨p0, p1, p2, p3, p4, p5, p6⟩ := BoxAt.cells hbox9
      have hfin9 : Below w.heap.size w w9 := Below.grown hB2 hg9 (Below.size hB2) (fun k hk => by injection hk with hk; omega)
      go_wp2_with fail
      exact bodyPost_ret (v := .tuple #[nilSV.val, .int .i64 4]) (by simp [results, Try.results22, go_sem, SV.val, p0, p1, p2, p3, p4, p5, p6]) rfl (actErr hfin.out hfin9)
    have hdr := Lib.hid (drop_some hsn.out.holds hk0)
    have hk0' := Lib.hid hk0
    have hpos := keptAt_range (holdsOk_iff.1 hsn.out.holds).1 (holdsOk_iff.1 hsn.out.holds).2 o k b
    clear hk0
    go_wp2_with fail
    clear y0 y1 x0 x1 x2 x3 x4 x5 x6 hbz0 hbz1
    refine (hdDropAt hdr.out _ _ (hH.out _ hB1)).mono ?_
    rintro e W2 ⟨u, rfl, hu, h2⟩
    have h02 := h1.trans (h2.mono h1.size)
    have hB2 := hb0.trans (h02.mono hb0.size)
    have hle : w.heap.size ≤ W1.heap.size := hB1.size
    obtain ⟨A7, c7, rfl⟩ := hu.isSlice
    have hu2 := Lib.hid hu
    have hle0 : W0.heap.size ≤ W1.heap.size := h1.size
    have hle2 : W1.heap.size ≤ W2.heap.size := h2.size
    clear hu h2 h1 hB1
    obtain ⟨⟨y0, y1⟩, x0, x1, x2, x3, x4, x5, x6, hbz0, hbz1⟩ := hK.out W2 (h02)
    by_cases g1 : n < 0
    · have hfin := Lib.hid (pick_range hc'.out hk0'.out (.inl g1))
      clear hu2
      have hbx9 := hR.out _ h02
      go_wp2_with (refine wpList_store_state rfl (.tmp 12) (.tmp 49) rfl rfl (w.heap.size + 1 + 1) nilSV nilSV hbx9 rfl rfl rfl (fun w9 hbox9 hg9 => ?_))
      obtain ⟨p0, p1, p2, p3, p4, p5, p6⟩ := BoxAt.cells hbox9
      have hfin9 : Below w.heap.size w w9 := Below.grown hB2 hg9 (Below.size hB2) (fun k hk => by injection hk with hk; omega)
      go_wp2_with fail
      exact bodyPost_ret (v := .tuple #[nilSV.val, .int .i64 3]) (by simp [results, Try.results22, go_sem, SV.val, p0, p1, p2, p3, p4, p5, p6]) rfl (actErr hfin.out hfin9)
    by_cases g2 : keptAt s.holds o k b < n
    · have hfin := Lib.hid (pick_range hc'.out hk0'.out (.inr g2))
      clear hu2
      have hbx9 := hR.out _ h02
      go_wp2_with (refine wpList_store_state rfl (.tmp 12) (.tmp 49) rfl rfl (w.heap.size + 1 + 1) nilSV nilSV hbx9 rfl rfl rfl (fun w9 hbox9 hg9 => ?_))
      obtain ⟨p0, p1, p2, p3, p4, p5, p6⟩ := BoxAt.cells hbox9
      have hfin9 : Below w.heap.size w w9 := Below.grown hB2 hg9 (Below.size hB2) (fun k hk => by injection hk with hk; omega)
      go_wp2_with fail
      exact bodyPost_ret (v := .tuple #[nilSV.val, .int .i64 3]) (by simp [results, Try.results22, go_sem, SV.val, p0, p1, p2, p3, p4, p5, p6]) rfl (actErr hfin.out hfin9)
    obtain ⟨i, j, c, rfl, rfl, rfl, hi, hj, hcb, hh1, hh2, hpk⟩ := pick_in hc'.out hk0'.out (n := n) ⟨by omega, by omega⟩
    have hpk' := Lib.hid hpk
    have hn0 : 0 ≤ n ∧ n ≤ keptAt s.holds i j c := ⟨by omega, by omega⟩
    clear hpk hk0' hdr hpos
    go_wp2_with fail
    clear y0 y1 x0 x1 x2 x3 x4 x5 x6 hbz0 hbz1
    refine (sOwn _ _ p s (hV.out _ hB2) hsn.out).mono ?_
    rintro e W5 ⟨_, rfl, ⟨V5, rfl, ho5⟩, h5⟩
    have hone6 := (ho5).one
    have hnb6 := newBox (W5)
    go_wp2_with (refine wpList_store_state rfl (.tmp 18) (.tmp 51) rfl rfl (World.heap (W5)).size nilSV V5 hnb6 rfl rfl hone6 (fun w6 hbox6 hg6 => ?_); refine Hid.out ?_)
    unfold Hid
    have hbb6 := newBelow hg6
    have hbl6 := hbox6.lt
    clear hone6 hnb6 hg6
    have h26 := h5.trans (hbb6.mono h5.size)
    have hx6 := Lib.hid ((Bx.of hbox6 (ho5.below hbb6)).from_ hle2)
    have hu6 := Lib.hid (hu2.out.below h26)
    have h06 := h02.trans (h26.mono h02.size)
    have hle5 : W1.heap.size ≤ W5.heap.size := Nat.le_trans hle2 h5.size
    clear hbox6 ho5 hbb6 h5 hbl6 h02 hB2 h26 hu2 hle2
    generalize W1.heap.size = base at hx6 hle hle0 hle5 hu6
    generalize W5.heap.size = bx at hx6 hle5 ⊢
    have hg0 := (hsn.out.line hi hj).1
    obtain ⟨g, hg⟩ : ∃ g : Nat, (s.line i j).good = (g : Int) := ⟨(s.line i j).good.toNat, by omega⟩
    have hgt : (s.line i j).good.toNat = g := by omega
    have hgp : g < p.sizes.length := by omega
    have hgo : g < s.out.length := by rw [hsn.out.out.1]; exact hgp
    have hgoi : (g : Int) < (s.out.length : Int) := by omega
    have o1 := hsn.out.out.2 hgp
    have hwo : IntKind.i64.wrap (intAt s.out g + n) = intAt s.out g + n := IntWalk.i64_in _ (by omega)
    have hi' : (i : Int) < s.orders.length := by omega
    have hj' : (j : Int) < ((s.order i).lines.length : Int) := by omega
    rw [hgt] at hpk'
    obtain ⟨go, co, curo, eo, hgo1, hblko, z0, z1⟩ := hx6.out.own.orderAt (o := i) hi
    obtain ⟨gl, cl, curl, e1, hgl, hblk, f0, f1, f2, f3⟩ := hx6.out.own.lineAt (o := i) (k := j) hi hj
    obtain ⟨gu, cu, curu, eu, hgu, hbu, ru⟩ := OwnSt.intAtOwn hx6.out.own.out (g := g) hgo
    obtain ⟨c0, c1, c2, c3, c4, c5, c6⟩ := hx6.out.cells
    rw [eo] at c1
    rw [e1] at z1
    rw [eu] at c5
    rw [hg] at f0
    have e1' := Lib.hid e1
    have eo' := Lib.hid eo
    have eu' := Lib.hid eu
    clear e1 eo eu hblk hblko hbu z0 f1 f2 f3
    by_cases hm : 1048576 < intAt s.out g + n
    · have hfin := Lib.hid (show pick p s i j c n = (dState, 2) by rw [hpk'.out, if_pos hm])
      go_wp2_with fail
      go_quiet (fail)
      have h0d := below_drewN h06 nq
      have hBd := hb0.trans (h0d.mono hb0.size)
      clear c0 c1 c2 c3 c4 c5 c6 z1 f0 ru hx6 hu6
      generalize w6.drewN nq = w7 at h0d hBd ⊢
      have hbx9 := hR.out _ h0d
      go_wp2_with (refine wpList_store_state rfl (.tmp 12) (.tmp 73) rfl rfl (w.heap.size + 1 + 1) nilSV nilSV hbx9 rfl rfl rfl (fun w9 hbox9 hg9 => ?_))
      obtain ⟨p0, p1, p2, p3, p4, p5, p6⟩ := BoxAt.cells hbox9
      have hfin9 : Below w.heap.size w w9 := Below.grown hBd hg9 (Below.size hBd) (fun k hk => by injection hk with hk; omega)
      go_wp2_with fail
      exact bodyPost_ret (v := .tuple #[nilSV.val, .int .i64 2]) (by simp [results, Try.results22, go_sem, SV.val, p0, p1, p2, p3, p4, p5, p6]) rfl (actErr hfin.out hfin9)
    have hmd := decide_eq_false hm
    have hfin := Lib.hid (show pick p s i j c n = (pickS p s i j c n, 0) by rw [hpk'.out, if_neg hm])
    have hF := Lib.hid (show Picks p s i j c n from ⟨hi, hj, hcb, hh1, hn0.1, hn0.2, by rw [hgt]; omega⟩)
    go_wp2_with fail
    go_quiet (fail)
    have hd7 := below_drewN (Below.refl w6.heap.size w6) nq
    have hx7 := Lib.hid (hx6.out.below hd7)
    have hu7 := Lib.hid (hu6.out.below hd7)
    have h07 := h06.trans (hd7.mono h06.size)
    clear c0 c1 c2 c3 c4 c5 c6 z1 f0 ru hx6 hu6 hd7 h06 hpk' hmd hm
    generalize w6.drewN nq = w7 at hx7 hu7 h07 ⊢
    go_wp2_with (refine wp_st_holds rfl (.tmp 75) (.tmp 74) rfl rfl A7 _ c7 _ hx7.out rfl rfl hu7.out (fun w8 hx8 hst8 => ?_); refine Hid.out ?_)
    unfold Hid
    have h08 := h07.trans (hst8.below (B := W0.heap.size) (fun q hq => by omega) h07.size)
    have hx8' := Lib.hid hx8
    have e19 := Lib.hid (show ({ V5 with holds := .slice A7 (withHold s.holds ⟨i, j, c, 0⟩).length c7 } : SV).line i = .slice (some ⟨gl, 0, none⟩) (s.order i).lines.length cl from e1'.out)
    have eo9 := Lib.hid (show ({ V5 with holds := .slice A7 (withHold s.holds ⟨i, j, c, 0⟩).length c7 } : SV).orders = .slice (some ⟨go, 0, none⟩) s.orders.length co from eo'.out)
    clear hx8 hst8 hx7 hu7 h07 e1' eo' eu'
    generalize ({ V5 with holds := .slice A7 (withHold s.holds ⟨i, j, c, 0⟩).length c7 } : SV) = V9 at hx8' e19 eo9
    have hco : c < s.on.length := by rw [hsn.out.onLen]; exact hcb
    have hci : (c : Int) < (s.on.length : Int) := by omega
    have hgr : g < (rowAt s.on c).length := by rw [hsn.out.rowLen hcb]; exact hgp
    have hgri : (g : Int) < ((rowAt s.on c).length : Int) := by omega
    have hcel := hsn.out.cell hcb hgp
    have hw1 : IntKind.i64.wrap (cell s.on c g - n) = cell s.on c g - n := IntWalk.i64_in _ (by omega)
    obtain ⟨gon, con, cur0, gr, cr, cur, eon, hgon, hbn0, r0, er, hgrb, hbr, rc⟩ := hx8'.out.own.onAt hco hgr
    change w8.cell? _ = some (.int .i64 (cell s.on c g)) at rc
    change w8.cell? _ = some (.slice _ (rowAt s.on c).length _) at r0
    change V9.on = .slice _ s.on.length _ at eon
    obtain ⟨_, f0, _⟩ := hx8'.out.own.lineCells (o := i) (k := j) hi hj e19.out
    change w8.cell? _ = some (.int .i64 (s.line i j).good) at f0
    rw [hg] at f0
    obtain ⟨c0, _⟩ := hx8'.out.cells
    rw [eon] at c0
    have er' := Lib.hid er
    clear eon er hbn0 hbr
    go_wp2_with fail
    go_still_tail 14, (by kernel_rfl)
    change wpList _ _ _ _ _ w8.drew
    refine wp_st_on rfl (.tmp 89) (.tmp 88) rfl rfl (i := c) (g := g) (q := cell s.on c g - n) hx8'.out.drew hco hgr er'.out rfl rfl (fun w9 hx9 hst9 => ?_)
    refine wpList_nil ?_
    have h09 := h08.drew.trans (hst9.below (B := W0.heap.size) (fun q hq => by omega) h08.drew.size)
    have hx9' := Lib.hid (show Bx w9 base bx 31 [] V9 { pk1 s c g n with holds := withHold s.holds ⟨i, j, c, 0⟩ } from hx9)
    clear hx9 hst9 c0 f0 r0 rc hw1 hx8' h08 er'
    obtain ⟨gu2, cu2, curu2, eu2, hgu2, hbu2, ru⟩ := OwnSt.intAtOwn hx9'.out.own.out (g := g) hgo
    change w9.cell? _ = some (.int .i64 (intAt s.out g)) at ru
    change V9.out = .slice _ s.out.length _ at eu2
    obtain ⟨_, f0, _⟩ := hx9'.out.own.lineCells (o := i) (k := j) hi hj e19.out
    change w9.cell? _ = some (.int .i64 (s.line i j).good) at f0
    rw [hg] at f0
    obtain ⟨_, _, _, _, _, c5, _⟩ := hx9'.out.cells
    rw [eu2] at c5
    have eu' := Lib.hid eu2
    clear eu2 hbu2
    go_wp2_with fail
    go_still_tail 11, (by kernel_rfl)
    change wpList _ _ _ _ _ w9.drew
    refine wp_st_out rfl (.tmp 100) (.tmp 99) rfl rfl (g := g) (q := intAt s.out g + n) hx9'.out.drew hgo eu'.out rfl rfl (fun w10 hx10 hst10 => ?_)
    refine wpList_nil ?_
    have h010 := h09.drew.trans (hst10.below (B := W0.heap.size) (fun q hq => by omega) h09.drew.size)
    have hx10' := Lib.hid (show Bx w10 base bx 31 [] V9 (preS s i j c n) by rw [← pk_pre hgt]; exact hx10)
    clear hx10 hst10 c5 f0 ru hx9' h09 eu'
    have hln := (hsn.out.line hi hj).2
    obtain ⟨gd, wt, gt, bk, hxl⟩ : ∃ gd wt gt bk, s.line i j = ⟨gd, wt, gt, bk⟩ := ⟨_, _, _, _, rfl⟩
    rw [hxl] at hln hg
    have hxl' := Lib.hid hxl
    simp only at hln hg
    subst hg
    obtain ⟨held, hheld⟩ : ∃ x, keptAt s.holds i j c = x := ⟨_, rfl⟩
    rw [hheld] at hh1 hh2 hn0
    have hheld' := Lib.hid hheld
    have hw2 : IntKind.i64.wrap (gt + n) = gt + n := IntWalk.i64_in _ (by omega)
    have hw5 : IntKind.i64.wrap (held - n) = held - n := IntWalk.i64_in _ (by omega)
    have hw4 : IntKind.i64.wrap (bk + (held - n)) = bk + (held - n) := IntWalk.i64_in _ (by omega)
    obtain ⟨_, f0, f1, f2, f3⟩ := hx10'.out.own.lineCells (o := i) (k := j) hi hj e19.out
    change w10.cell? _ = some (.int .i64 (s.line i j).got) at f2
    rw [hxl] at f2
    rw [hheld]
    clear hheld f0 f1 f3 hxl
    go_wp2_with (refine wp_st_line rfl (.tmp 108) (.tmp 106) rfl rfl (i := i) (k := j) (j := 2) (y := ⟨g, wt, gt + n, bk⟩) hx10'.out hi hj e19.out (by decide) (show cLine ⟨g, wt, gt + n, bk⟩ = (cLine (s.line i j)).set 2 (.int .i64 (gt + n)) by rw [hxl'.out]; rfl) rfl rfl (fun w11 hx11 hst11 => ?_); refine Hid.out ?_)
    unfold Hid
    have h011 := h010.trans (hst11.below (B := W0.heap.size) (fun q hq => by omega) h010.size)
    have hx11' := Lib.hid hx11
    have hl11 := Lib.hid (show ((preS s i j c n).setLine i j ⟨g, wt, gt + n, bk⟩).line i j = ⟨g, wt, gt + n, bk⟩ by rw [line_setLine (s := preS s i j c n) hi hj, if_pos ⟨rfl, rfl⟩])
    have hi11 : i < ((preS s i j c n).setLine i j ⟨g, wt, gt + n, bk⟩).orders.length := by rw [orders_setLine]; exact hi
    have hj11 : j < (((preS s i j c n).setLine i j ⟨g, wt, gt + n, bk⟩).order i).lines.length := by rw [lines_setLine (s := preS s i j c n) hi]; exact hj
    clear hx11 hst11 f2 hx10' h010 hw2
    obtain ⟨_, f0, f1, f2, f3⟩ := hx11'.out.own.lineCells hi11 hj11 e19.out
    rw [hl11.out] at f3
    clear f0 f1 f2
    go_wp2_with (refine wp_st_line rfl (.tmp 118) (.tmp 116) rfl rfl (i := i) (k := j) (j := 3) (y := ⟨g, wt, gt + n, bk + (held - n)⟩) hx11'.out hi11 hj11 e19.out (by decide) (by rw [hl11.out]; rfl) rfl rfl (fun w12 hx12 hst12 => ?_); refine Hid.out ?_)
    unfold Hid
    have h012 := h011.trans (hst12.below (B := W0.heap.size) (fun q hq => by omega) h011.size)
    have hx12' := Lib.hid (show Bx w12 base bx 31 [] V9 (picked s i j c held n) by rw [← picked_steps (s := s) (n := n) (held := held) (c := c) (j := j) hi ⟨g, wt, gt + n, bk⟩, hxl'.out]; exact hx12)
    clear hx12 hst12 f3 hx11' h011 hw4 hl11 hi11 hj11
    have hr12 := Lib.hid (show Right p (picked s i j c held n) by rw [← hheld'.out]; exact picked_right (right_of_check hc'.out) hF.out)
    have hm12 := Lib.hid (show May (picked s i j c held n) i j (held - n) by rw [← hheld'.out]; exact picked_may (right_of_check hc'.out) hF.out)
    have hB12 := hb0.trans (h012.mono hb0.size)
    obtain ⟨⟨y0, y1⟩, x0, x1, x2, x3, x4, x5, x6, hbz0, hbz1⟩ := hK.out w12 (h012)
    have hbs : base ≤ w12.heap.size := Nat.le_trans hle5 (Nat.le_of_lt hx12'.out.lt)
    go_wp2_with fail
    clear y0 y1 x0 x1 x2 x3 x4 x5 x6 hbz0 hbz1
    clear hw5
    refine (alHold _ _ p _ i j (held - n) c (hP'.out _ hB12) hr12.out hm12.out hx12'.out hbs).mono ?_
    rintro e w14 ⟨rfl, V7, hsb7, hx14, hst14⟩
    have hge : ∀ q, (q = bx ∨ (V9.line i).ownBlock = some q) → base ≤ q := fun q hq => by
      rcases hq with rfl | hq
      · exact hle5
      · exact ((hx12'.out.own.line i (show i < (picked s i j c held n).orders.length by rw [picked_orders]; exact hi)).size q hq).1
    have h014 := h012.trans (hst14.below (B := W0.heap.size) (fun q hq => Nat.le_trans hle0 (hge q hq)) h012.size)
    have hx14' := Lib.hid (show Bx w14 base bx 31 [] V7 (pickT p s i j c n) by unfold pickT; rw [hheld'.out]; exact hx14)
    have eo7 := Lib.hid (show V7.orders = .slice (some ⟨go, 0, none⟩) s.orders.length co by rw [hsb7]; exact eo9.out)
    clear hx14 hst14 hsb7 hge hx12' h012 hB12 hr12 hm12 eo9 e19
    have hTh := (pickT_held (right_of_check hc'.out) hF.out).1
    have hTi : i < (pickT p s i j c n).orders.length := by rw [hTh.orders, picked_orders]; exact hi
    have hTs := Lib.hid hTh.right.sane
    have hfin2 := Lib.hid (show pick p s i j c n = (close (pickT p s i j c n) i, 0) from hfin.out)
    clear hTh hF hfin
    generalize pickT p s i j c n = T at hx14' hTi hTs hfin2
    have l13 := hTs.out.lines3 hTi
    obtain ⟨_, _, _, z1⟩ := hx14'.out.own.orderCells hTi eo7.out
    have hsl := Lib.hid ((hx14'.out.own.line i hTi).sl (by omega))
    go_wp2_with fail
    clear z1
    refine (containsFuncLine _ _ (T.order i).lines 60 #[] (fun x => decide (x.got < x.want)) entersPkLacks hsl.out (fun j _ W hW => pkLacks _ W)).mono ?_
    rintro e W15 ⟨rfl, h15⟩
    rw [allGot_any hTs.out hTi]
    have hx := Lib.hid (hx14'.out.below h15)
    have h0r := h014.trans (h15.mono h014.size)
    have hB0r := hb0.trans (h0r.mono hb0.size)
    clear hsl hx14' h014 h15
    cases hag : allGot (T.order i)
    · have hfin := Lib.hid (show pick p s i j c n = (T, 0) by rw [hfin2.out]; unfold close; rw [hag]; rfl)
      clear hag hfin2
      have hbx9 := hR.out _ h0r
      obtain ⟨b0, b1, b2, b3, b4, b5, b6⟩ := BoxAt.cells hx.out.boxAt
      have hone9 := OwnSt.one hx.out.own
      go_wp2_with (refine wpList_store_state rfl (.tmp 12) (.tmp 136) rfl rfl (w.heap.size + 1 + 1) nilSV V7 hbx9 rfl rfl hone9 (fun w9 hbox9 hg9 => ?_))
      have hO9 := OwnSt.keptBy hx.out.own hg9 hbx9 (by decide) (by decide) (by decide) (by decide) (by decide) (by decide)
      obtain ⟨p0, p1, p2, p3, p4, p5, p6⟩ := BoxAt.cells hbox9
      have hfin9 : Below w.heap.size w w9 := Below.grown hB0r hg9 (Below.size hB0r) (fun k hk => by injection hk with hk; omega)
      clear b0 b1 b2 b3 b4 b5 b6
      go_wp2_with fail
      exact bodyPost_ret (v := .tuple #[SV.val V7, .int .i64 0]) (by simp [results, Try.results22, go_sem, SV.val, p0, p1, p2, p3, p4, p5, p6]) rfl (actOk hfin.out (hO9.from_ hle) hfin9)
    · have hfin := Lib.hid (show pick p s i j c n = ({ T with orders := T.orders.set i { T.order i with kind := 2 } }, 0) by rw [hfin2.out]; unfold close; rw [hag]; rfl)
      clear hag hfin2
      obtain ⟨_, _, z0, _⟩ := hx.out.own.orderCells hTi eo7.out
      go_wp2_with (refine wp_st_kind rfl (.tmp 135) (.const (.int .i64 2)) rfl rfl (i := i) (q := 2) hx.out hTi eo7.out rfl rfl (fun w16 hx16 hst16 => ?_); refine Hid.out ?_)
      unfold Hid
      have h016 := h0r.trans (hst16.below (B := W0.heap.size) (fun q hq => by omega) h0r.size)
      have hB16 := hb0.trans (h016.mono hb0.size)
      have hx16' := Lib.hid hx16
      clear hx16 hst16 z0
      have hbx9 := hR.out _ h016
      obtain ⟨b0, b1, b2, b3, b4, b5, b6⟩ := BoxAt.cells hx16'.out.boxAt
      have hone9 := OwnSt.one hx16'.out.own
      go_wp2_with (refine wpList_store_state rfl (.tmp 12) (.tmp 136) rfl rfl (w.heap.size + 1 + 1) nilSV V7 hbx9 rfl rfl hone9 (fun w9 hbox9 hg9 => ?_))
      have hO9 := OwnSt.keptBy hx16'.out.own hg9 hbx9 (by decide) (by decide) (by decide) (by decide) (by decide) (by decide)
      obtain ⟨p0, p1, p2, p3, p4, p5, p6⟩ := BoxAt.cells hbox9
      have hfin9 : Below w.heap.size w w9 := Below.grown hB16 hg9 (Below.size hB16) (fun k hk => by injection hk with hk; omega)
      clear b0 b1 b2 b3 b4 b5 b6
      go_wp2_with fail
      exact bodyPost_ret (v := .tuple #[SV.val V7, .int .i64 0]) (by simp [results, Try.results22, go_sem, SV.val, p0, p1, p2, p3, p4, p5, p6]) rfl (actOk hfin.out (hO9.from_ hle) hfin9)
  · have hne : (checkState p s != 0) = true := by simpa using hc
    have hfin := Lib.hid (pick_bad (o := o) (k := k) (b := b) (n := n) hc)
    clear hc
    have hbx9 := hR.out _ h1
    go_wp2_with (refine wpList_store_state rfl (.tmp 12) (.tmp 26) rfl rfl (w.heap.size + 1 + 1) nilSV nilSV hbx9 rfl rfl rfl (fun w9 hbox9 hg9 => ?_))
    obtain ⟨p0, p1, p2, p3, p4, p5, p6⟩ := BoxAt.cells hbox9
    have hfin9 : Below w.heap.size w w9 := Below.grown hB1 hg9 (Below.size hB1) (fun k hk => by injection hk with hk; omega)
    go_wp2_with fail
    exact bodyPost_ret (v := .tuple #[nilSV.val, .int .i64 (checkState p s)]) (by simp [results, Try.results22, go_sem, SV.val, p0, p1, p2, p3, p4, p5, p6]) rfl (actErr hfin.out hfin9)
end Wh
namespace Wh
open Go Go.RowKit Go.Shelf Go.Proofs
attribute [local go_sem] run_indexAt_letter evL_tmp evL_const evL_func

theorem pick_dead {p : Plan} {s : State} {o k b n : Int} (h : (pick p s o k b n).2 ≠ 0) : (pick p s o k b n).1 = dState := by
  unfold pick at h ⊢
  split
  · rfl
  rename_i h1
  rw [if_neg h1] at h
  split
  · rfl
  rename_i h2
  rw [if_neg h2] at h
  split
  · rfl
  rename_i h3
  rw [if_neg h3] at h
  split
  · rfl
  rename_i h4
  rw [if_neg h4] at h
  exact absurd rfl h
theorem pick_small (p : Plan) (s : State) (o k b n : Int) : small (pick p s o k b n).1 = true := by
  by_cases h : (pick p s o k b n).2 = 0
  · obtain ⟨hc, i, j, c, rfl, rfl, rfl, f, e⟩ := pick_right h
    rw [e]
    exact check_small (pickS_true hc f).1
  · rw [pick_dead h]
    show small dState = true
    decide

def pkA : State := (pick yardP busyS 0 0 1 1).1
def pkB : State := (pick yardP busyS 0 1 2 6).1
theorem begP1 : pick yardP busyS 0 0 1 1 = (pkA, 0) := Prod.ext rfl (by decide +kernel)
theorem begP2 : pick yardP busyS 0 1 2 6 = (pkB, 0) := Prod.ext rfl (by decide +kernel)
theorem begP3 : pick yardP busyS 1 0 0 1 = (dState, 4) := by decide +kernel
theorem begP4 : pick yardP busyS 0 0 1 4 = (dState, 3) := by decide +kernel
theorem begPk {o k b n : Int} {r : State × Int} (h : pick yardP busyS o k b n = r) (w : World) (v vs : Value) (hp : PlanV w w.heap.size v yardP) (hv : StateV w w.heap.size vs busyS) :
    Calls Try.prog 22 #[v, vs, .int .i64 o, .int .i64 k, .int .i64 b, .int .i64 n] w (ActPost r w) := by
  rw [← h]
  exact pkPick w v vs yardP busyS o k b n hp hv
theorem pkA_on : pkA.on.length = 3 := by decide +kernel
theorem pkA_row : (rowAt pkA.on 1).length = 2 := by decide +kernel
theorem pkA_cell : cell pkA.on 1 0 = 2 := by decide +kernel
theorem pkA_out : pkA.out.length = 2 := by decide +kernel
theorem pkA_out0 : intAt pkA.out 0 = 2 := by decide +kernel
theorem pkA_orders : pkA.orders.length = 2 := by decide +kernel
theorem pkA_lines : (pkA.order 0).lines.length = 2 := by decide +kernel
theorem pkA_line : pkA.line 0 0 = ⟨0, 6, 2, 0⟩ := by decide +kernel
theorem pkA_holds : pkA.holds.length = 2 := by decide +kernel
theorem pkA_hold : (hold pkA.holds 0).n = 4 := by decide +kernel
theorem pkB_on : pkB.on.length = 3 := by decide +kernel
theorem pkB_row : (rowAt pkB.on 2).length = 2 := by decide +kernel
theorem pkB_cell : cell pkB.on 2 1 = 0 := by decide +kernel
theorem pkB_orders : pkB.orders.length = 2 := by decide +kernel
theorem pkB_lines : (pkB.order 0).lines.length = 2 := by decide +kernel
theorem pkB_line : pkB.line 0 1 = ⟨1, 9, 6, 3⟩ := by decide +kernel

set_option maxHeartbeats 4000000 in
set_option maxRecDepth 100000 in
theorem pickBegun (w : World) : Calls Try.prog 24 #[] w fun e w' => e = .returned (.bool true) ∧ Below w.heap.size w w' := by
  go_enter Try.func24, Try.ntmps24
  go_wp2_with fail
  refine (lYard _).mono ?_
  rintro e W1 ⟨u1, rfl, hu1, hb1⟩
  go_wp2_with fail
  refine (lBusy _).mono ?_
  rintro e W2 ⟨V2, rfl, ho2, hb2⟩
  go_wp2_with fail
  refine (begPk begP1 W2 _ _ (hu1.grow hb2) (ho2.view0 (by decide))).mono ?_
  rintro e W3 ⟨V3, rfl, ho3, hb3⟩
  have hone4 := (ho3).one
  have hnb4 := newBox (W3)
  go_wp2_with (refine wpList_store_state rfl (.tmp 1) (.tmp 13) rfl rfl (World.heap (W3)).size nilSV V3 hnb4 rfl rfl hone4 (fun w4 hbox4 hg4 => ?_); refine Hid.out ?_)
  unfold Hid
  have hbb4 := newBelow hg4
  have hbl4 := hbox4.lt
  clear hone4 hnb4 hg4
  have ha4 := hb1.trans ((hb2.trans ((hb3.trans (hbb4.mono hb3.size)).mono hb2.size)).mono hb1.size)
  have ho4 := Lib.hid (ho3.below hbb4)
  have hbox4' := Lib.hid hbox4
  clear ho3 hbox4 hbb4 hb3 hb2 hb1 hu1 ho2
  go_wp2_with fail
  refine (lYard _).mono ?_
  rintro e W5 ⟨u5, rfl, hu5, hb5⟩
  go_wp2_with fail
  refine (lBusy _).mono ?_
  rintro e W6 ⟨V6, rfl, ho6, hb6⟩
  go_wp2_with fail
  refine (begPk begP2 W6 _ _ (hu5.grow hb6) (ho6.view0 (by decide))).mono ?_
  rintro e W7 ⟨V7, rfl, ho7, hb7⟩
  have hone8 := (ho7).one
  have hnb8 := newBox (W7)
  go_wp2_with (refine wpList_store_state rfl (.tmp 3) (.tmp 19) rfl rfl (World.heap (W7)).size nilSV V7 hnb8 rfl rfl hone8 (fun w8 hbox8 hg8 => ?_); refine Hid.out ?_)
  unfold Hid
  have hbb8 := newBelow hg8
  have hbl8 := hbox8.lt
  clear hone8 hnb8 hg8
  have ha8 := hb5.trans ((hb6.trans ((hb7.trans (hbb8.mono hb7.size)).mono hb6.size)).mono hb5.size)
  have ho8 := Lib.hid (ho7.below hbb8)
  have hbox8' := Lib.hid hbox8
  clear ho7 hbox8 hbb8 hb7 hb6 hb5 hu5 ho6
  go_wp2_with fail
  refine (lYard _).mono ?_
  rintro e W9 ⟨u9, rfl, hu9, hb9⟩
  go_wp2_with fail
  refine (lBusy _).mono ?_
  rintro e W10 ⟨V10, rfl, ho10, hb10⟩
  go_wp2_with fail
  refine (begPk begP3 W10 _ _ (hu9.grow hb10) (ho10.view0 (by decide))).mono ?_
  rintro e W11 ⟨V11, rfl, ho11, hb11⟩
  have hone12 := (ho11).one
  have hnb12 := newBox (W11)
  go_wp2_with (refine wpList_store_state rfl (.tmp 5) (.tmp 25) rfl rfl (World.heap (W11)).size nilSV V11 hnb12 rfl rfl hone12 (fun w12 hbox12 hg12 => ?_); refine Hid.out ?_)
  unfold Hid
  have hbb12 := newBelow hg12
  have hbl12 := hbox12.lt
  clear hone12 hnb12 hg12
  have ha12 := hb9.trans ((hb10.trans ((hb11.trans (hbb12.mono hb11.size)).mono hb10.size)).mono hb9.size)
  have ho12 := Lib.hid (ho11.below hbb12)
  have hbox12' := Lib.hid hbox12
  clear ho11 hbox12 hbb12 hb11 hb10 hb9 hu9 ho10
  go_wp2_with fail
  refine (lYard _).mono ?_
  rintro e W13 ⟨u13, rfl, hu13, hb13⟩
  go_wp2_with fail
  refine (lBusy _).mono ?_
  rintro e W14 ⟨V14, rfl, ho14, hb14⟩
  go_wp2_with fail
  refine (begPk begP4 W14 _ _ (hu13.grow hb14) (ho14.view0 (by decide))).mono ?_
  rintro e W15 ⟨V15, rfl, ho15, hb15⟩
  have hone16 := (ho15).one
  have hnb16 := newBox (W15)
  go_wp2_with (refine wpList_store_state rfl (.tmp 7) (.tmp 31) rfl rfl (World.heap (W15)).size nilSV V15 hnb16 rfl rfl hone16 (fun w16 hbox16 hg16 => ?_); refine Hid.out ?_)
  unfold Hid
  have hbb16 := newBelow hg16
  have hbl16 := hbox16.lt
  clear hone16 hnb16 hg16
  have ha16 := hb13.trans ((hb14.trans ((hb15.trans (hbb16.mono hb15.size)).mono hb14.size)).mono hb13.size)
  have h8z := ha12.trans (ha16.mono ha12.size)
  have h4z := ha8.trans (h8z.mono ha8.size)
  have hB := ha4.trans (h4z.mono ha4.size)
  have hA := ho4.out.below h4z
  have hBs := ho8.out.below h8z
  have hbA := hbox4'.out.below h4z hbl4
  have hbB := hbox8'.out.below h8z hbl8
  clear ho15 hbox16 hbb16 hb15 hb14 hb13 hu13 ho14 ho4 ho8 ho12 hbox4' hbox8' hbox12' ha16 ha12 ha8 ha4 h8z h4z
  obtain ⟨pA0, pA1, pA2, _, _, pA5, _⟩ := hbA.cells
  obtain ⟨pB0, pB1, _, _, _, _, _⟩ := hbB.cells
  obtain ⟨gon, con, cur0, gr, cr, cur, eon, _, _, r0, _, _, _, rc⟩ := hA.onAt (b := 1) (g := 0) (by rw [pkA_on]; decide) (by rw [pkA_row]; decide)
  rw [pkA_on] at eon
  rw [pkA_row] at r0
  rw [pkA_cell] at rc
  rw [eon] at pA0
  obtain ⟨gu, cu, curu, eu, _, _, ru⟩ := OwnSt.intAtOwn hA.out (g := 0) (by rw [pkA_out]; decide)
  rw [pkA_out] at eu
  rw [pkA_out0] at ru
  rw [eu] at pA5
  obtain ⟨go, co, curo, vO, hgo, blko, kO, kL⟩ := hA.orderAt (o := 0) (by rw [pkA_orders]; decide)
  obtain ⟨gl, cl, curl, vL, hgl, blkl, kl0, kl1, kl2, kl3⟩ := hA.lineAt (o := 0) (k := 0) (by rw [pkA_orders]; decide) (by rw [pkA_lines]; decide)
  rw [pkA_orders] at vO
  rw [pkA_lines] at vL
  rw [vO] at pA1
  rw [vL] at kL
  rw [pkA_line] at kl0 kl1 kl2 kl3
  have kL : w16.cell? ⟨go, 1, none⟩ = some (.slice (some ⟨gl, 0, none⟩) 2 cl) := kL
  have kl0 : w16.cell? ⟨gl, 0, none⟩ = some (.int .i64 0) := kl0
  have kl1 : w16.cell? ⟨gl, 1, none⟩ = some (.int .i64 6) := kl1
  have kl2 : w16.cell? ⟨gl, 2, none⟩ = some (.int .i64 2) := kl2
  have kl3 : w16.cell? ⟨gl, 3, none⟩ = some (.int .i64 0) := kl3
  obtain ⟨gh, ch, curh, vH, _, _, hcell⟩ := hA.holds.at (fun _ => rfl) (show 0 < pkA.holds.length by rw [pkA_holds]; decide)
  rw [← hold_get] at hcell
  rw [pkA_holds] at vH
  rw [vH] at pA2
  have m3 : w16.cell? ⟨gh, 3, none⟩ = some (.int .i64 4) := by
    have := hcell 3 (.int .i64 (hold pkA.holds 0).n) rfl
    rw [pkA_hold] at this
    exact this
  obtain ⟨gon', con', cur0', gr', cr', cur', eon', _, _, r0', _, _, _, rc'⟩ := hBs.onAt (b := 2) (g := 1) (by rw [pkB_on]; decide) (by rw [pkB_row]; decide)
  rw [pkB_on] at eon'
  rw [pkB_row] at r0'
  rw [pkB_cell] at rc'
  rw [eon'] at pB0
  obtain ⟨go', co', curo', vO', hgo', blko', kO', kL'⟩ := hBs.orderAt (o := 0) (by rw [pkB_orders]; decide)
  obtain ⟨gl', cl', curl', vL', hgl', blkl', kl0', kl1', kl2', kl3'⟩ := hBs.lineAt (o := 0) (k := 1) (by rw [pkB_orders]; decide) (by rw [pkB_lines]; decide)
  rw [pkB_orders] at vO'
  rw [pkB_lines] at vL'
  rw [vO'] at pB1
  rw [vL'] at kL'
  rw [pkB_line] at kl0' kl1' kl2' kl3'
  have kL' : w16.cell? ⟨go', 1, none⟩ = some (.slice (some ⟨gl', 0, none⟩) 2 cl') := kL'
  have kl0' : w16.cell? ⟨gl', 4, none⟩ = some (.int .i64 1) := kl0'
  have kl1' : w16.cell? ⟨gl', 5, none⟩ = some (.int .i64 9) := kl1'
  have kl2' : w16.cell? ⟨gl', 6, none⟩ = some (.int .i64 6) := kl2'
  have kl3' : w16.cell? ⟨gl', 7, none⟩ = some (.int .i64 3) := kl3'
  clear hcell vH vO vL vO' vL' eon eon' eu hA hBs hbA hbB blko blkl blko' blkl' hgo hgl hgo' hgl' kO kO'
  go_wp2_with fail
  go_ret
  exact ⟨rfl, hB⟩

end Wh
