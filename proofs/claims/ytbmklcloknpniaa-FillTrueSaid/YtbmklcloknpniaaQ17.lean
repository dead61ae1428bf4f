/- Texts of the claim, joined: FillH, Open, OpenT, OpenH. -/
import Derived.Deep.CutRange
import Derived.Deep.LoopGhost
import Derived.BigRegion
import Derived.SizedLaws
import Derived.Deep.Slices
import Derived.Deep.Fields
import Derived.ChangeSame
import Derived.ChangeOld
import Derived.Carry
import Derived.Test.YtbmklcloknpniaaChecked
import Derived.KernelRfl
import Derived.Test.YtbmklcloknpniaaQ16
import Derived.Test.YtbmklcloknpniaaQ01
import Derived.Test.YtbmklcloknpniaaQ02
import Derived.Test.YtbmklcloknpniaaQ03
namespace Wh
open Go Go.RowKit Go.Shelf Go.Proofs
attribute [local go_sem] run_indexAt_letter evL_tmp evL_const evL_func

theorem mv_bools (g i a d : Int) (j : Int) (n : Int) : ∃ (b1 b2 : Bool) (y1 y : Int), (((j == g) = false ∧ b1 = false) ∨ ((j == g) = true ∧ (i == a) = b1)) ∧ (((j == g) = false ∧ b2 = false) ∨ ((j == g) = true ∧ (i == d) = b2)) ∧
    ((b1 = false ∧ y1 = 0) ∨ (b1 = true ∧ y1 = -n)) ∧ ((b2 = false ∧ y = y1) ∨ (b2 = true ∧ y = n)) ∧ (-200 ≤ n ∧ n ≤ 200 → -200 ≤ y ∧ y ≤ 200) ∧ (if j = g ∧ i = d then n else if j = g ∧ i = a then -n else 0) = y := by
  refine ⟨(j == g) && (i == a), (j == g) && (i == d), if ((j == g) && (i == a)) = true then -n else 0, if ((j == g) && (i == d)) = true then n else if ((j == g) && (i == a)) = true then -n else 0, ?_, ?_, ?_, ?_, ?_, ?_⟩
  · cases (j == g) <;> simp
  · cases (j == g) <;> simp
  · cases ((j == g) && (i == a)) <;> simp
  · cases ((j == g) && (i == d)) <;> simp
  · intro h
    split
    · omega
    · split <;> omega
  · simp only [Bool.and_eq_true, beq_iff_eq]

set_option maxHeartbeats 20000000 in
set_option maxRecDepth 100000 in
theorem fillTrueWalk (w : World) (v vs : Value) (p : Plan) (s : State) (bn k n : Int) (hp : PlanV w w.heap.size v p) (hv : StateV w w.heap.size vs s) (hbn : -9223372036854775808 ≤ bn ∧ bn ≤ 9223372036854775807) :
    Calls Try.prog 3 #[v, vs, .int .i64 bn, .int .i64 k, .int .i64 n] w fun e w' => e = .returned (.bool true) ∧ Below w.heap.size w w' := by
  by_cases hc : checkState p s = 0
  · obtain ⟨a, ha⟩ : ∃ a, fillS p s = a := ⟨_, rfl⟩
    have hcs := Lib.hid hc
    have hra := Lib.hid (show fill p s = (a, 0) by rw [fill_ok hc, ha])
    have hFl := Lib.hid (show Filled p s a by rw [← ha]; exact fillS_filled hc)
    have hsn := Lib.hid (right_of_check hc).sane
    have hsa := Lib.hid hFl.out.right.sane
    have hca := Lib.hid (filled_check hFl.out)
    have hlen := filled_len hFl.out
    have h8 := hsa.out.moves8
    have hbn' := Lib.hid hbn
    have hcnt := hsn.out.counts
    have hnz : ((p.bins.length : Int) == 0) = false := beq_eq_false_iff_ne.2 (by omega)
    clear hc ha hbn
    obtain ⟨Ab, cb, As, cs, rfl, hP', hBn, hSz, hlb, hls⟩ := openPl hp
    obtain ⟨A0, c0, A1, c1, A2, c2, A3, c3, A4, c4, A5, c5, A6, c6, rfl, hV, hN, hO, hH, hM, hI, hU, hX, hl0, hl1, hl2, hl3, hl4, hl5, hl6⟩ := openOne hv
    go_enter Try.func3, Try.ntmps3
    go_wp2_with fail
    obtain ⟨W0, hW0, hb0, hsz0, hsz1, hsE, hK⟩ := boxesTwo w p s Ab cb As cs A0 c0 A1 c1 A2 c2 A3 c3 A4 c4 A5 c5 A6 c6
    rw [hW0]
    clear hW0
    obtain ⟨⟨y0, y1⟩, x0, x1, x2, x3, x4, x5, x6, hbz0, hbz1⟩ := hK.out W0 (Below.refl W0.heap.size W0)
    go_wp2_with fail
    clear y0 y1 x0 x1 x2 x3 x4 x5 x6 hbz0 hbz1
    refine (flFillAt hra.out _ _ _ (hP'.out _ hb0) (hV.out _ hb0)).mono ?_
    rintro e W1 ⟨V1, rfl, ho1, hb1⟩
    obtain ⟨Am, cm, hvm, _, _⟩ := ho1.moves.sl (by omega)
    obtain ⟨k0, k1, k2, k3, k4, k5, k6, k7, k8⟩ := V1
    obtain rfl : k3 = .slice Am a.moves.length cm := hvm
    have hone2 := (ho1).one
    have hnb2 := newBox (W1)
    go_wp2_with (refine wpList_store_state rfl (.tmp 11) (.tmp 28) rfl rfl (World.heap (W1)).size nilSV (⟨k0, k1, k2, .slice Am a.moves.length cm, k4, k5, k6, k7, k8⟩ : SV) hnb2 rfl rfl hone2 (fun w2 hbox2 hg2 => ?_); refine Hid.out ?_)
    unfold Hid
    have hbb2 := newBelow hg2
    have hbl2 := hbox2.lt
    clear hone2 hnb2 hg2
    have h02 := hb1.trans (hbb2.mono hb1.size)
    have hB2 := hb0.trans (h02.mono hb0.size)
    have hv2 := Lib.hid ((ho1.below hbb2).view0 (check_small hca.out))
    have hbox2' := Lib.hid hbox2
    clear hbox2 ho1 hb1 hbb2 hra
    generalize W1.heap.size = b5 at hbox2' hbl2 ⊢
    obtain ⟨⟨y0, y1⟩, x0, x1, x2, x3, x4, x5, x6, hbz0, hbz1⟩ := hK.out w2 (h02)
    go_wp2_with fail
    clear y0 y1 x0 x1 x2 x3 x4 x5 x6 hbz0 hbz1
    refine (lChoose _ bn p.bins.length (by omega) (by omega) hbn'.out).mono ?_
    rintro e w' ⟨rfl, rfl⟩
    have hbc := chosen_lt bn (n := p.bins.length) (by omega)
    generalize chosen bn p.bins.length = b at hbc ⊢
    clear hbn' hnz
    obtain ⟨hless1, hless2⟩ := hFl.out.less b hbc
    have f1 := freeE_ok hcs.out (isBin_iff.2 (show 0 ≤ (b : Int) ∧ (b : Int) < p.bins.length by omega))
    have f2 := freeE_ok hca.out (isBin_iff.2 (show 0 ≤ (b : Int) ∧ (b : Int) < p.bins.length by omega))
    obtain ⟨⟨y0, y1⟩, x0, x1, x2, x3, x4, x5, x6, hbz0, hbz1⟩ := hK.out w2 (h02)
    go_wp2_with fail
    clear y0 y1 x0 x1 x2 x3 x4 x5 x6 hbz0 hbz1
    refine (sFreeAt _ _ _ (hP'.out _ hB2) (hV.out _ hB2) f1).mono ?_
    rintro e W3 ⟨rfl, h3⟩
    have h03 := h02.trans (h3.mono h02.size)
    have hB3 := hb0.trans (h03.mono hb0.size)
    have hbx3 := Lib.hid (hbox2'.out.below h3 hbl2)
    have hbl3 := Nat.lt_of_lt_of_le hbl2 h3.size
    obtain ⟨⟨y0, y1⟩, x0, x1, x2, x3, x4, x5, x6, hbz0, hbz1⟩ := hK.out W3 (h03)
    obtain ⟨c0, c1, c2, c3, c4, c5, c6⟩ := hbx3.out.cells
    simp only at c0 c1 c2 c3 c4 c5 c6
    go_wp2_with fail
    clear y0 y1 x0 x1 x2 x3 x4 x5 x6 hbz0 hbz1
    clear c0 c1 c2 c3 c4 c5 c6
    refine (sFreeAt _ _ _ (hP'.out _ hB3) (hv2.out.grow h3) f2).mono ?_
    rintro e W4 ⟨rfl, h4⟩
    have h24 := h3.trans (h4.mono h3.size)
    have h04 := h02.trans (h24.mono h02.size)
    have hB4 := hb0.trans (h04.mono hb0.size)
    have hbx4 := Lib.hid (hbox2'.out.below h24 hbl2)
    have hbl4 := Nat.lt_of_lt_of_le hbl2 h24.size
    have t1 : ¬ free p s b < free p a b := by omega
    have t2 : ¬ (a.moves.length : Int) < (s.moves.length : Int) := by omega
    obtain ⟨⟨y0, y1⟩, x0, x1, x2, x3, x4, x5, x6, hbz0, hbz1⟩ := hK.out W4 (h04)
    obtain ⟨c0, c1, c2, c3, c4, c5, c6⟩ := hbx4.out.cells
    simp only at c0 c1 c2 c3 c4 c5 c6
    go_upto_region 7 with fail
    go_cut [92] from 25 (fun cb wx => cb = .bool false ∧ Below w2.heap.size w2 wx)
    case first =>
      go_wp2_with fail
      clear y0 y1 x0 x1 x2 x3 x4 x5 x6 hbz0 hbz1
      clear c0 c1 c2 c3 c4 c5 c6
      refine (sCheckAt _ _ _ (hP'.out _ hB4) (hv2.out.grow h24) hca.out).mono ?_
      rintro e W5 ⟨rfl, h5⟩
      have h25 := h24.trans (h5.mono h24.size)
      have h05 := h02.trans (h25.mono h02.size)
      have hB5 := hb0.trans (h05.mono hb0.size)
      have hbx5 := Lib.hid (hbox2'.out.below h25 hbl2)
      have hbl5 := Nat.lt_of_lt_of_le hbl2 h25.size
      obtain ⟨⟨y0, y1⟩, x0, x1, x2, x3, x4, x5, x6, hbz0, hbz1⟩ := hK.out W5 (h05)
      obtain ⟨c0, c1, c2, c3, c4, c5, c6⟩ := hbx5.out.cells
      simp only at c0 c1 c2 c3 c4 c5 c6
      by_cases hneg : free p a b < 0
      · have t3 : ¬ free p a b < free p s b := fun hh => by have := hless2 hh; omega
        go_wp2_with fail
        go_meet
        exact ⟨by first | rfl | (simp [t1, t3]; exact hlen), h25⟩
      · go_wp2_with fail
        go_meet
        exact ⟨by first | rfl | (simp [t1]; exact hlen), h25⟩
    case rest =>
    obtain ⟨rfl, h25⟩ := hcut
    clear y0 y1 x0 x1 x2 x3 x4 x5 x6 hbz0 hbz1
    clear c0 c1 c2 c3 c4 c5 c6
    have h05 := h02.trans (h25.mono h02.size)
    have hB5 := hb0.trans (h05.mono hb0.size)
    clear hbx3 hbl3 hbx4 hbl4 h3 h4 h03 h04 hB3 hB4 h24 f1 f2 hv2 t1 t2 hless1 hless2
    obtain ⟨⟨y0, y1⟩, x0, x1, x2, x3, x4, x5, x6, hbz0, hbz1⟩ := hK.out wc (h05)
    obtain ⟨x, c, hm⟩ : ∃ x c, moved p s k n = (x, c) := ⟨_, _, rfl⟩
    have hm' := Lib.hid hm
    by_cases hc0 : c = 0
    · subst hc0
      obtain ⟨_, i, rfl, f, e⟩ := moved_right (by rw [hm])
      rw [hm] at e
      simp only at e
      have hk1 := f.hk
      have hki : (i : Int) < (s.moves.length : Int) := by omega
      have hcx := Lib.hid (show checkState p x = 0 by rw [e]; exact moved_check hcs.out f)
      have hsx := Lib.hid (right_of_check hcx.out).sane
      have hlx : x.moves.length = s.moves.length - 1 := by rw [e]; exact moved_len f
      obtain ⟨gd, sr, ds, mn, hxm⟩ : ∃ gd sr ds mn, moveAt s.moves i = ⟨gd, sr, ds, mn⟩ := ⟨_, _, _, _, rfl⟩
      have hmv := hsn.out.moveAt hk1
      rw [hxm] at hmv
      simp only at hmv
      obtain ⟨g, rfl⟩ : ∃ g : Nat, gd = g := ⟨gd.toNat, by omega⟩
      obtain ⟨sa, rfl⟩ : ∃ a : Nat, sr = a := ⟨sr.toNat, by omega⟩
      obtain ⟨d, rfl⟩ : ∃ d : Nat, ds = d := ⟨ds.toNat, by omega⟩
      have had : (sa : Int) ≠ d := by omega
      have hn0 := f.n0
      have hn1 := f.n1
      rw [hxm] at hn1
      simp only at hn1
      have hcell := Lib.hid (show ∀ b' g' : Nat, b' < p.bins.length → g' < p.sizes.length → cell x.on b' g' = cell s.on b' g' + (if (g' : Int) = g ∧ (b' : Int) = d then n else if (g' : Int) = g ∧ (b' : Int) = sa then -n else 0) from fun b' g' hb hg => by
        rw [e, moved_cell hcs.out f hb hg, hxm])
      have hxm := Lib.hid hxm
      clear hm e f
      have t4 : ((x.moves.length : Int) != (s.moves.length : Int) - 1) = false := by simp; omega
      have hx8 : x.moves.length ≤ 8 := hsx.out.moves8
      clear hlx
      go_wp2_with fail
      clear y0 y1 x0 x1 x2 x3 x4 x5 x6 hbz0 hbz1
      refine (flMovedAt hm'.out _ _ _ (hP'.out _ hB5) (hV.out _ hB5)).mono ?_
      rintro e W6 ⟨V6, rfl, ho6, hb6⟩
      obtain ⟨Ax, cx, hvx, _, _⟩ := ho6.moves.sl (by omega)
      obtain ⟨gon, con, _, _, _, _, eon, _⟩ := ho6.onAt (b := 0) (g := 0) (by rw [hsx.out.onLen]; omega) (by rw [hsx.out.rowLen (by omega)]; omega)
      obtain ⟨j0, j1, j2, j3, j4, j5, j6, j7, j8⟩ := V6
      obtain rfl : j0 = .slice (some ⟨gon, 0, none⟩) x.on.length con := eon
      obtain rfl : j3 = .slice Ax x.moves.length cx := hvx
      have hone7 := (ho6).one
      have hnb7 := newBox (W6)
      go_wp2_with (refine wpList_store_state rfl (.tmp 18) (.tmp 99) rfl rfl (World.heap (W6)).size nilSV (⟨.slice (some ⟨gon, 0, none⟩) x.on.length con, j1, j2, .slice Ax x.moves.length cx, j4, j5, j6, j7, j8⟩ : SV) hnb7 rfl rfl hone7 (fun w7 hbox7 hg7 => ?_); refine Hid.out ?_)
      unfold Hid
      have hbb7 := newBelow hg7
      have hbl7 := hbox7.lt
      clear hone7 hnb7 hg7
      have h57 := hb6.trans (hbb7.mono hb6.size)
      have h07 := h05.trans (h57.mono h05.size)
      have hB7 := hb0.trans (h07.mono hb0.size)
      have hO7 := Lib.hid (ho6.below hbb7)
      have hv7 := Lib.hid (hO7.out.view0 (check_small hcx.out))
      have hbx7 := Lib.hid hbox7
      clear hbox7 ho6 hb6 hbb7
      generalize W6.heap.size = b6 at hbx7 hbl7 ⊢
      obtain ⟨⟨y0, y1⟩, x0, x1, x2, x3, x4, x5, x6, hbz0, hbz1⟩ := hK.out w7 (h07)
      obtain ⟨c0, c1, c2, c3, c4, c5, c6⟩ := hbx7.out.cells
      simp only at c0 c1 c2 c3 c4 c5 c6
      go_wp2_with fail
      clear y0 y1 x0 x1 x2 x3 x4 x5 x6 hbz0 hbz1
      clear c0 c1 c2 c3 c4 c5 c6
      refine (sCheckAt _ _ _ (hP'.out _ hB7) hv7.out hcx.out).mono ?_
      rintro e W8 ⟨rfl, h8'⟩
      have h08 := h07.trans (h8'.mono h07.size)
      have hB8 := hb0.trans (h08.mono hb0.size)
      obtain ⟨c0, c1, c2, c3, c4, c5, c6⟩ := (hbx7.out.below h8' hbl7).cells
      simp only at c0 c1 c2 c3 c4 c5 c6
      obtain ⟨okm, lm, e0, e1, e2, e3⟩ := (hM.out W8 hB8).at_.move hk1
      rw [hxm.out] at e0 e1 e2 e3
      simp only at e0 e1 e2 e3
      have h7a := h8'.alloc h8'.size (.cells #[.int .i64 g, .int .i64 sa, .int .i64 d, .int .i64 mn] 42)
      have hbl8 := Lib.hid (Blk.new W8 42 #[.int .i64 g, .int .i64 sa, .int .i64 d, .int .i64 mn])
      obtain ⟨⟨y0, y1⟩, x0, x1, x2, x3, x4, x5, x6, hbz0, hbz1⟩ := hK.out W8 (h08)
      have t5 : decide (s.moves.length ≤ i) = false := decide_eq_false (by omega)
      have t6 : decide ((i : Int) < 0) = false := decide_eq_false (by omega)
      go_wp2_with fail
      clear c0 c1 c2 c3 c4 c5 c6 e0 e1 e2 e3 okm lm t5 t6
      clear y0 y1 x0 x1 x2 x3 x4 x5 x6 hbz0 hbz1
      generalize W8.alloc (.cells #[.int .i64 g, .int .i64 sa, .int .i64 d, .int .i64 mn] 42) = W9 at h7a hbl8 ⊢
      generalize W8.heap.size = z8 at hbl8 ⊢
      clear h8' h08 hB8 hv7 h57
      have h99 := Below.refl W9.heap.size W9
      go_loopw [21] (fun q' wr => ∃ q : Nat, q ≤ s.on.length ∧ q' = .int .i64 q ∧ Below W9.heap.size W9 wr) (fun q' _ => s.on.length - (intOf q').toNat)
      case atStart => exact ⟨0, Nat.zero_le _, rfl, h99⟩
      case round =>
        clear h99
        obtain ⟨q, hq, rfl, h9r⟩ := hrel
        have h7r := h7a.trans (h9r.mono h7a.size)
        have h0r := h07.trans (h7r.mono h07.size)
        have hBr := hb0.trans (h0r.mono hb0.size)
        obtain ⟨⟨y0, y1⟩, x0, x1, x2, x3, x4, x5, x6, hbz0, hbz1⟩ := hK.out wr (h0r)
        by_cases hq1 : q < s.on.length
        · have hqi : (q : Int) < (s.on.length : Int) := by omega
          have hqp : q < p.bins.length := by rw [← hsn.out.onLen]; exact hq1
          have hqx : q < x.on.length := by rw [hsx.out.onLen]; exact hqp
          have hqxi : (q : Int) < (x.on.length : Int) := by omega
          go_wp2_with fail
          clear y0 y1 x0 x1 x2 x3 x4 x5 x6 hbz0 hbz1
          have h9r' := h9r
          clear h9r h7r h0r hBr
          go_loopg [22] (rowAt s.on q).length (fun gk m' wr => ∃ m : Nat, gk = (rowAt s.on q).length - m ∧ m ≤ (rowAt s.on q).length ∧ m' = .int .i64 m ∧ Below W9.heap.size W9 wr)
          case atStart => exact ⟨0, rfl, Nat.zero_le _, rfl, h9r'⟩
          case round =>
            clear h9r'
            obtain ⟨m, hgk, hm, rfl, h9r⟩ := hrel
            have hgk' := Lib.hid hgk
            clear hgk
            have h7r := h7a.trans (h9r.mono h7a.size)
            have h0r := h07.trans (h7r.mono h07.size)
            have hBr := hb0.trans (h0r.mono hb0.size)
            obtain ⟨Ar, cr, or0, lr0, rr0, hrow⟩ := (hN.out wr hBr).row hq1
            by_cases hm1 : m < (rowAt s.on q).length
            · have hmi : (m : Int) < ((rowAt s.on q).length : Int) := by omega
              have hmp : m < p.sizes.length := by rw [← hsn.out.rowLen hqp]; exact hm1
              have hmx : m < (rowAt x.on q).length := by rw [hsx.out.rowLen hqp]; exact hmp
              have hmxi : (m : Int) < ((rowAt x.on q).length : Int) := by omega
              obtain ⟨b1, b2, z1, y, hq1, hq2, hm1c, hm2c, hyb, hyy⟩ := mv_bools (g : Int) q sa d m n
              have hcl := hcell.out q m hqp hmp
              rw [hyy] at hcl
              have hcl' := Lib.hid hcl
              have hq1' := Lib.hid hq1
              have hq2' := Lib.hid hq2
              have hm1c' := Lib.hid hm1c
              have hm2c' := Lib.hid hm2c
              have hyb := hyb (by omega)
              clear hcl hq1 hq2 hm1c hm2c hyy
              have hbl9 := hbl8.out.below h9r hbl8.out.lt
              have x0' := hbl9.cell (j := 0) rfl
              have x1' := hbl9.cell (j := 1) rfl
              have x2' := hbl9.cell (j := 2) rfl
              have tl8 := hbl9.lt
              have hwn := IntWalk.i64_in (-n) (by omega)
              obtain ⟨or1, lr1, rr1⟩ := hrow.at_.int hm1
              change wr.cell? _ = some (.int .i64 (cell s.on q m)) at rr1
              obtain ⟨⟨y0, y1⟩, x0, x1, x2, x3, x4, x5, x6, hbz0, hbz1⟩ := hK.out wr (h0r)
              go_upto_region 22 with fail
              go_cut [160] from 141 to 209 (fun yv wx => yv = .bool b1 ∧ wr = wx)
              case first =>
                rcases hq1'.out with ⟨t3, rfl⟩ | ⟨t3, t4⟩
                all_goals
                  go_wp2_with fail
                  go_meet
                  exact ⟨rfl, rfl⟩
              case rest =>
                obtain ⟨rfl, rfl⟩ := hcut
                go_upto_if 160 with fail
                go_cut [23] from 141 to 209 (fun yv wx => yv = .int .i64 z1 ∧ wr = wx)
                case first =>
                  rcases hm1c'.out with ⟨rfl, rfl⟩ | ⟨rfl, rfl⟩
                  all_goals
                    go_wp2_with fail
                    go_meet
                    exact ⟨rfl, rfl⟩
                case rest =>
                obtain ⟨rfl, rfl⟩ := hcut
                go_upto_region 24 with fail
                go_cut [172] from 141 to 209 (fun yv wx => yv = .bool b2 ∧ wr = wx)
                case first =>
                  rcases hq2'.out with ⟨t3, rfl⟩ | ⟨t3, t4⟩
                  all_goals
                    go_wp2_with fail
                    go_meet
                    exact ⟨rfl, rfl⟩
                case rest =>
                obtain ⟨rfl, rfl⟩ := hcut
                go_upto_if 172 with fail
                go_cut [23] from 141 to 209 (fun yv wx => yv = .int .i64 y ∧ wr = wx)
                case first =>
                  rcases hm2c'.out with ⟨rfl, rfl⟩ | ⟨rfl, rfl⟩
                  all_goals
                    go_wp2_with fail
                    go_meet
                    exact ⟨rfl, rfl⟩
                case rest =>
                obtain ⟨rfl, rfl⟩ := hcut
                obtain ⟨gr, crx, lon, lgr, r0, rc⟩ := (hO7.out.below h7r).onCells hqx hmx rfl
                have c0 : wr.cell? ⟨b6, 0, none⟩ = some (.slice (some ⟨gon, 0, none⟩) x.on.length con) := (hbx7.out.below h7r hbl7).cells.1
                have tl6 := Nat.lt_of_lt_of_le hbl7 h7r.size
                have v1 := hsn.out.cell hqp hmp
                rw [hcl'.out] at rc
                have hw := IntWalk.i64_in (cell s.on q m + y) (by omega)
                have k1 : decide ((x.on.length : Int) ≤ (q : Int)) = false := decide_eq_false (by omega)
                have k2 : decide (((rowAt x.on q).length : Int) ≤ (m : Int)) = false := decide_eq_false (by omega)
                go_wp2_with fail
                go_quiet (fail)
                have h9q := below_drewN h9r nq
                clear or0 lr0 rr0 hrow or1 lr1 rr1 lon lgr r0 rc hbl9 x0' x1' x2' tl8 c0 tl6 k1 k2 hw hwn v1
                clear y0 y1 x0 x1 x2 x3 x4 x5 x6 hbz0 hbz1
                go_wp2_with fail
                go_roundg ((rowAt s.on q).length - (m + 1))
                case rel => exact ⟨m + 1, rfl, by omega, by go_num, h9q⟩
                case measure => rw [hgk'.out]; omega
            · obtain rfl : m = (rowAt s.on q).length := by omega
              obtain ⟨⟨y0, y1⟩, x0, x1, x2, x3, x4, x5, x6, hbz0, hbz1⟩ := hK.out wr (h0r)
              go_wp2_with fail
              clear or0 lr0 rr0 hrow
              clear y0 y1 x0 x1 x2 x3 x4 x5 x6 hbz0 hbz1
              go_roundw
              case rel => exact ⟨q + 1, by omega, by go_num, h9r⟩
              case measure => simp [intOf]; omega
        · obtain rfl : q = s.on.length := by omega
          go_wp2_with fail
          refine (fillBegun _).mono ?_
          rintro e W10 ⟨rfl, h10⟩
          go_wp2_with fail
          go_ret
          exact ⟨rfl, hBr.trans (h10.mono hBr.size)⟩
    · have hne : (c != 0) = true := by simpa using hc0
      clear hm
      go_wp2_with fail
      clear y0 y1 x0 x1 x2 x3 x4 x5 x6 hbz0 hbz1
      refine (flMovedAt hm'.out _ _ _ (hP'.out _ hB5) (hV.out _ hB5)).mono ?_
      rintro e W6 ⟨V6, rfl, ho6, hb6⟩
      have hone7 := (ho6).one
      have hnb7 := newBox (W6)
      go_wp2_with (refine wpList_store_state rfl (.tmp 18) (.tmp 99) rfl rfl (World.heap (W6)).size nilSV V6 hnb7 rfl rfl hone7 (fun w7 hbox7 hg7 => ?_); refine Hid.out ?_)
      unfold Hid
      have hbb7 := newBelow hg7
      have hbl7 := hbox7.lt
      clear hone7 hnb7 hg7
      have hB7 := hB5.trans ((hb6.trans (hbb7.mono hb6.size)).mono hB5.size)
      clear hbox7 ho6 hb6 hbb7
      go_wp2_with fail
      refine (fillBegun _).mono ?_
      rintro e W9 ⟨rfl, h9⟩
      go_wp2_with fail
      go_ret
      exact ⟨rfl, hB7.trans (h9.mono hB7.size)⟩
  · obtain ⟨x, c, hf, hne⟩ : ∃ x c, fill p s = (x, c) ∧ (c != 0) = true := ⟨_, _, fill_bad hc, by simpa using hc⟩
    have hf' := Lib.hid hf
    clear hc hf
    obtain ⟨Ab, cb, As, cs, rfl, hP', hBn, hSz, hlb, hls⟩ := openPl hp
    obtain ⟨A0, c0, A1, c1, A2, c2, A3, c3, A4, c4, A5, c5, A6, c6, rfl, hV, hN, hO, hH, hM, hI, hU, hX, hl0, hl1, hl2, hl3, hl4, hl5, hl6⟩ := openOne hv
    go_enter Try.func3, Try.ntmps3
    go_wp2_with fail
    obtain ⟨W0, hW0, hb0, hsz0, hsz1, hsE, hK⟩ := boxesTwo w p s Ab cb As cs A0 c0 A1 c1 A2 c2 A3 c3 A4 c4 A5 c5 A6 c6
    rw [hW0]
    clear hW0
    obtain ⟨⟨y0, y1⟩, x0, x1, x2, x3, x4, x5, x6, hbz0, hbz1⟩ := hK.out W0 (Below.refl W0.heap.size W0)
    go_wp2_with fail
    clear y0 y1 x0 x1 x2 x3 x4 x5 x6 hbz0 hbz1
    refine (flFillAt hf'.out _ _ _ (hP'.out _ hb0) (hV.out _ hb0)).mono ?_
    rintro e W1 ⟨V1, rfl, ho1, hb1⟩
    have hone2 := (ho1).one
    have hnb2 := newBox (W1)
    go_wp2_with (refine wpList_store_state rfl (.tmp 11) (.tmp 28) rfl rfl (World.heap (W1)).size nilSV V1 hnb2 rfl rfl hone2 (fun w2 hbox2 hg2 => ?_); refine Hid.out ?_)
    unfold Hid
    have hbb2 := newBelow hg2
    have hbl2 := hbox2.lt
    clear hone2 hnb2 hg2
    have h02 := hb1.trans (hbb2.mono hb1.size)
    have hB2 := hb0.trans (h02.mono hb0.size)
    clear hbox2 ho1 hb1 hbb2
    obtain ⟨⟨y0, y1⟩, x0, x1, x2, x3, x4, x5, x6, hbz0, hbz1⟩ := hK.out w2 (h02)
    go_wp2_with fail
    clear y0 y1 x0 x1 x2 x3 x4 x5 x6 hbz0 hbz1
    refine (fillBegun _).mono ?_
    rintro e W9 ⟨rfl, h9⟩
    go_wp2_with fail
    go_ret
    exact ⟨rfl, hB2.trans (h9.mono hB2.size)⟩
end Wh
namespace Wh
open Go Go.RowKit Go.ChangeShapes Go.WideShapes Go.Deep

theorem cell_lt {w : World} {a : Addr} {v : Value} (h : w.cell? a = some v) : a.block < w.heap.size := by
  by_cases hlt : a.block < w.heap.size
  · exact hlt
  · unfold World.cell? at h
    rw [Array.getElem?_eq_none (by omega)] at h
    simp at h

section
variable {H : Type} {en : TypeId × Value → H} {P : Program} {w : World} {base : Nat} {sp : Nat → Bool} {hd : Bool}

/-- Reads, and each of its slices is within the reach. -/
def Rd (en : TypeId × Value → H) (P : Program) (w : World) (base : Nat) (sp : Nat → Bool) (hd : Bool) (t : TypeId) (cs : List Value) : Prop :=
  ∃ (n : Nat) (x : DataW H × List MemPlace), DataW.trod en P w base sp hd n t cs = some x ∧ ∀ k ∈ x.1.weights P t, k ≤ reachBytes

theorem Rd.int {t : TypeId} {cs : List Value} (ht : P.underlying t = some (.int .i64)) (h : Rd en P w base sp hd t cs) : ∃ n, cs = [.int .i64 n] := by
  obtain ⟨n, x, h, _⟩ := h
  obtain ⟨m, hm, _⟩ := DataW.trod_int ht h
  exact ⟨m, hm⟩
theorem Rd.bool {t : TypeId} {cs : List Value} (ht : P.underlying t = some .bool) (h : Rd en P w base sp hd t cs) : ∃ b, cs = [.bool b] := by
  obtain ⟨n, x, h, _⟩ := h
  obtain ⟨m, hm, _⟩ := DataW.trod_bool ht h
  exact ⟨m, hm⟩

theorem Rd.fields {t : TypeId} {fs : Array Field} {cs : List Value} (hs : P.underlying t = some (.struct fs)) (hone : oneCellFields P fs = true) (hC : P.cellsOf t = fs.size) (h : Rd en P w base sp hd t cs) :
    cs.length = fs.size ∧ ∀ (j : Nat) (f : Field), fs[j]? = some f → ∃ v, cs[j]? = some v ∧ Rd en P w base sp hd f.type [v] := by
  obtain ⟨n, x, h, hw⟩ := h
  obtain ⟨xs, m, _, hx, hlen, hxl, hf⟩ := DataW.trod_struct hs h
  rw [hC] at hlen
  refine ⟨hlen, fun j f hj => ?_⟩
  have hjl : j < fs.size := (Array.getElem?_eq_some_iff.1 hj).1
  obtain ⟨ho, hk⟩ := hone_of hone j f hj
  have h1 := hf j f hj
  rw [ho, hk, List.drop_eq_getElem_cons (by omega)] at h1
  have hys : xs[j]? = some (xs[j]'(by omega)) := List.getElem?_eq_getElem (by omega)
  refine ⟨cs[j]'(by omega), List.getElem?_eq_getElem (by omega), m, xs[j]'(by omega), by rw [← hys, ← h1]; rfl, fun k hkm => hw k ?_⟩
  rw [hx]
  simp only [DataW.weights, hs]
  refine DataW.weights_mem_each (j := j) (t := f.type) (d := (xs[j]'(by omega)).1) ?_ ?_ k hkm
  · rw [List.getElem?_map, Array.getElem?_toList, hj]; rfl
  · rw [List.getElem?_map, hys]; rfl

theorem weights_mem_all {e : TypeId} : ∀ {ds : List (DataW H)} {j : Nat} {d : DataW H}, ds[j]? = some d → ∀ n ∈ d.weights P e, n ∈ DataW.weightsAll P e ds
  | d0 :: ds, 0, d, hd, n, hn => by
    simp only [List.getElem?_cons_zero, Option.some.injEq] at hd
    subst hd
    simp only [DataW.weightsAll, List.mem_append]
    exact Or.inl hn
  | d0 :: ds, j + 1, d, hd, n, hn => by
    simp only [List.getElem?_cons_succ] at hd
    simp only [DataW.weightsAll, List.mem_append]
    exact Or.inr (weights_mem_all hd n hn)
  | [], _, _, hd, _, _ => by simp at hd

/-- A slice's elements, each by itself. -/
theorem Rd.slice {t e : TypeId} {k : Nat} {cs : List Value} (ht : P.underlying t = some (.slice e)) (hC : P.cellsOf e = k) (hB : 0 < P.bytesOf e) (h : Rd en P w base sp hd t cs) :
    ∃ (A : Option Addr) (len c : Nat), cs = [.slice A len c] ∧ len ≤ 140737488355232 ∧
      ∀ i, i < len → ∃ cs', cs'.length = k ∧ Rd en P w base sp hd e cs' ∧ ∀ j v, cs'[j]? = some v → okA A ∧ ablk A < w.heap.size ∧ w.cell? ⟨ablk A, aoff A + (i * k + j), none⟩ = some v := by
  obtain ⟨n, x, h, hw⟩ := h
  rcases open_slice ht h with ⟨rfl, _⟩ | ⟨a, len, cap, m, n', D, Pl, rfl, _, hl, _, hm, hx, hi⟩
  · exact ⟨none, 0, 0, rfl, by omega, fun i hi => by omega⟩
  · have hlm : len ≤ m := by rw [hm]; split <;> omega
    have hreach : (len + (m - len)) * P.bytesOf e ≤ reachBytes := hw _ (by rw [hx]; simp [DataW.weights, ht])
    have hspot : 0 < len → 0 < k → a.spot = none := fun h1 h2 => by
      obtain ⟨cs', hc, _⟩ := hi 0 (by omega)
      rw [hC] at hc
      obtain ⟨_, hcl, hat⟩ := World.cells?_some hc
      have hcell := hat 0 h2
      rw [List.getElem?_eq_getElem (by omega), add_add] at hcell
      have := World.cell?_spot hcell
      simpa [Addr.add] using this
    refine ⟨some a, len, cap, rfl, ?_, fun i hi' => ?_⟩
    · have h1 : len * 1 ≤ (len + (m - len)) * P.bytesOf e := Nat.mul_le_mul (by omega) hB
      simp only [reachBytes] at hreach
      omega
    · obtain ⟨cs', hc, ht'⟩ := hi i (by omega)
      rw [hC] at hc
      obtain ⟨_, hcl, hat⟩ := World.cells?_some hc
      refine ⟨cs', hcl, ⟨n', _, ht', fun q hq => hw q ?_⟩, fun j v hj => ?_⟩
      · rw [hx]
        simp only [DataW.weights, ht, List.mem_cons, List.mem_append]
        refine .inr (.inl (weights_mem_all (j := i) (d := D i) ?_ q hq))
        rw [List.getElem?_map, List.getElem?_range hi']; rfl
      · have hjl : j < k := by rw [← hcl]; exact (List.getElem?_eq_some_iff.1 hj).1
        have hcell := hat j hjl
        rw [hj, add_add] at hcell
        obtain ⟨b, off, spot⟩ := a
        obtain rfl : spot = none := hspot (by omega) (by omega)
        rw [Addr.add_lit] at hcell
        exact ⟨okA_some _ _, cell_lt (a := ⟨b, off + (i * k + j), none⟩) hcell, hcell⟩

/-- A slice whose elements are all of the form 'enc x'. -/
theorem Rd.sl {α : Type} {enc : α → List Value} {k : Nat} {t e : TypeId} {cs : List Value} [Inhabited α] (ht : P.underlying t = some (.slice e)) (hC : P.cellsOf e = k) (hB : 0 < P.bytesOf e) (hk : ∀ x, (enc x).length = k) (h0 : 0 < k)
    (hel : ∀ cs', cs'.length = k → Rd en P w base sp hd e cs' → ∃ x : α, cs' = enc x) (h : Rd en P w base sp hd t cs) : ∃ v l, cs = [v] ∧ Sl enc w w.heap.size v l := by
  obtain ⟨A, len, c, rfl, hlen, hi⟩ := h.slice ht hC hB
  obtain ⟨X, hX⟩ := choose_lt (α := α) (n := len) (p := fun i x => ∀ j v, (enc x)[j]? = some v → okA A ∧ ablk A < w.heap.size ∧ w.cell? ⟨ablk A, aoff A + (i * k + j), none⟩ = some v) (fun i hil => by
    obtain ⟨cs', h1, h2, h3⟩ := hi i hil
    obtain ⟨x, rfl⟩ := hel cs' h1 h2
    exact ⟨x, h3⟩)
  refine ⟨_, (List.range len).map X, rfl, A, c, by simp, by simpa using hlen, fun hn => ?_⟩
  have hcell : ∀ j v, (((List.range len).map X).flatMap enc)[j]? = some v → okA A ∧ ablk A < w.heap.size ∧ w.cell? ⟨ablk A, aoff A + j, none⟩ = some v := fun j v hj => by
    have hjl : j < len * k := by
      have := (List.getElem?_eq_some_iff.1 hj).1
      rw [flat_length enc k hk] at this
      simpa using this
    have hq : j / k < len := (Nat.div_lt_iff_lt_mul h0).2 hjl
    have e1 : j / k * k + j % k = j := by rw [Nat.mul_comm]; exact Nat.div_add_mod j k
    have e2 := flat_get enc k hk ((List.range len).map X) (j / k) (j % k) (X (j / k)) (by rw [List.getElem?_map, List.getElem?_range hq]; rfl) (Nat.mod_lt _ h0)
    rw [e1, hj] at e2
    have := hX (j / k) hq (j % k) v e2.symm
    rwa [e1] at this
  have hlp : 0 < (((List.range len).map X).flatMap enc).length := List.length_pos_iff.2 hn
  obtain ⟨h1, h2, _⟩ := hcell 0 _ (List.getElem?_eq_getElem hlp)
  exact ⟨h1, h2, fun j v hj => (hcell j v hj).2.2⟩

/-- A slice of one-cell elements, each with a reading of its own. -/
theorem Rd.cells {α : Type} [Inhabited α] {k : Nat} {t e : TypeId} {cs : List Value} {enc : Value → α → List Value} {Q : Value → α → Prop} (ht : P.underlying t = some (.slice e)) (hC : P.cellsOf e = k) (hB : 0 < P.bytesOf e) (hk : ∀ v x, (enc v x).length = k) (h0 : 0 < k)
    (hel : ∀ cs', cs'.length = k → Rd en P w base sp hd e cs' → ∃ (v : Value) (x : α), cs' = enc v x ∧ Q v x) (h : Rd en P w base sp hd t cs) :
    ∃ (A : Option Addr) (c : Nat) (l : List α) (vs : List Value), cs = [.slice A l.length c] ∧ l.length ≤ 140737488355232 ∧ vs.length = l.length ∧ At w w.heap.size A ((l.zip vs).flatMap fun x => enc x.2 x.1) ∧
      ∀ (i : Nat) (x : α), l[i]? = some x → ∃ u, vs[i]? = some u ∧ Q u x := by
  obtain ⟨A, len, c, rfl, hlen, hi⟩ := h.slice ht hC hB
  obtain ⟨X, hX⟩ := choose_lt (α := α × Value) (n := len) (p := fun i x => Q x.2 x.1 ∧ ∀ j v, (enc x.2 x.1)[j]? = some v → okA A ∧ ablk A < w.heap.size ∧ w.cell? ⟨ablk A, aoff A + (i * k + j), none⟩ = some v) (fun i hil => by
    obtain ⟨cs', h1, h2, h3⟩ := hi i hil
    obtain ⟨v, x, rfl, hq⟩ := hel cs' h1 h2
    exact ⟨(x, v), hq, h3⟩)
  refine ⟨A, c, (List.range len).map (fun i => (X i).1), (List.range len).map (fun i => (X i).2), by simp, by simpa using hlen, by simp, ?_, fun i x hix => ?_⟩
  · have hz : ((List.range len).map (fun i => (X i).1)).zip ((List.range len).map (fun i => (X i).2)) = (List.range len).map X := by
      rw [List.zip_map']
    rw [hz]
    intro hn
    have hcell : ∀ j v, (((List.range len).map X).flatMap fun x => enc x.2 x.1)[j]? = some v → okA A ∧ ablk A < w.heap.size ∧ w.cell? ⟨ablk A, aoff A + j, none⟩ = some v := fun j v hj => by
      have hjl : j < len * k := by
        have := (List.getElem?_eq_some_iff.1 hj).1
        rw [flat_length (fun x : α × Value => enc x.2 x.1) k (fun x => hk _ _)] at this
        simpa using this
      have hq : j / k < len := (Nat.div_lt_iff_lt_mul h0).2 hjl
      have e1 : j / k * k + j % k = j := by rw [Nat.mul_comm]; exact Nat.div_add_mod j k
      have e2 := flat_get (fun x : α × Value => enc x.2 x.1) k (fun x => hk _ _) ((List.range len).map X) (j / k) (j % k) (X (j / k)) (by rw [List.getElem?_map, List.getElem?_range hq]; rfl) (Nat.mod_lt _ h0)
      rw [e1, hj] at e2
      have := (hX (j / k) hq).2 (j % k) v e2.symm
      rwa [e1] at this
    have hlp : 0 < (((List.range len).map X).flatMap fun x => enc x.2 x.1).length := List.length_pos_iff.2 hn
    obtain ⟨h1, h2, _⟩ := hcell 0 _ (List.getElem?_eq_getElem hlp)
    exact ⟨h1, h2, fun j v hj => (hcell j v hj).2.2⟩
  · rw [List.getElem?_map] at hix
    obtain ⟨i', hi', rfl⟩ := Option.map_eq_some_iff.1 hix
    have hil : i < len := by
      have := (List.getElem?_eq_some_iff.1 hi').1
      simpa using this
    rw [List.getElem?_range hil] at hi'
    obtain rfl := Option.some.inj hi'
    exact ⟨(X i).2, by rw [List.getElem?_map, List.getElem?_range hil]; rfl, (hX i hil).1⟩

end
end Wh
namespace Wh
open Go Go.RowKit Go.ChangeShapes Go.WideShapes Go.Deep Go.Proofs

instance : Inhabited Bin := ⟨⟨false, 0, 0, 0⟩⟩
instance : Inhabited Hold := ⟨⟨0, 0, 0, 0⟩⟩

def structFields (P : Program) (t : TypeId) : Array Field := match P.underlying t with
  | some (.struct fs) => fs
  | _ => #[]
theorem fields_eq {P : Program} {t : TypeId} (h : (match P.underlying t with | some (.struct _) => true | _ => false) = true) : P.underlying t = some (.struct (structFields P t)) := by
  unfold structFields
  split at h
  · rename_i h'; rw [h']
  · cases h

theorem u_int : Try.prog.underlying 3 = some (.int .i64) := by kernel_rfl
theorem u_bool : Try.prog.underlying 4 = some .bool := by kernel_rfl
theorem u_ints : Try.prog.underlying 23 = some (.slice 3) := by kernel_rfl
theorem u_rows : Try.prog.underlying 26 = some (.slice 23) := by kernel_rfl
theorem u_bins : Try.prog.underlying 22 = some (.slice 73) := by kernel_rfl
theorem c_int : Try.prog.cellsOf 3 = 1 := by kernel_rfl
theorem c_ints : Try.prog.cellsOf 23 = 1 := by kernel_rfl
theorem b_int : 0 < Try.prog.bytesOf 3 := of_decide_eq_true (by kernel_rfl)
theorem b_ints : 0 < Try.prog.bytesOf 23 := of_decide_eq_true (by kernel_rfl)
theorem b_bin : 0 < Try.prog.bytesOf 73 := of_decide_eq_true (by kernel_rfl)
theorem s_bin : Try.prog.underlying 73 = some (.struct (structFields Try.prog 73)) := fields_eq (by kernel_rfl)
theorem o_bin : oneCellFields Try.prog (structFields Try.prog 73) = true := by kernel_rfl
theorem n_bin : (structFields Try.prog 73).size = 4 := by kernel_rfl
theorem c_bin : Try.prog.cellsOf 73 = 4 := by kernel_rfl
theorem f_bin : (structFields Try.prog 73).toList.map (·.type) = [4, 3, 3, 3] := by kernel_rfl
theorem s_plan : Try.prog.underlying 25 = some (.struct (structFields Try.prog 25)) := fields_eq (by kernel_rfl)
theorem o_plan : oneCellFields Try.prog (structFields Try.prog 25) = true := by kernel_rfl
theorem n_plan : (structFields Try.prog 25).size = 2 := by kernel_rfl
theorem c_plan : Try.prog.cellsOf 25 = 2 := by kernel_rfl
theorem f_plan : (structFields Try.prog 25).toList.map (·.type) = [22, 23] := by kernel_rfl

section
variable {H : Type} {en : TypeId × Value → H} {w : World} {base : Nat} {sp : Nat → Bool} {hd : Bool}
theorem Rd.field {P : Program} {t : TypeId} {fs : Array Field} {cs : List Value} {ts : List TypeId} (hs : P.underlying t = some (.struct fs)) (hone : oneCellFields P fs = true) (hC : P.cellsOf t = fs.size) (hf : fs.toList.map (·.type) = ts)
    (h : Rd en P w base sp hd t cs) (j : Nat) (t' : TypeId) (hj : ts[j]? = some t') : ∃ v, cs[j]? = some v ∧ Rd en P w base sp hd t' [v] := by
  subst hf
  rw [List.getElem?_map, Array.getElem?_toList] at hj
  obtain ⟨f, hf, rfl⟩ := Option.map_eq_some_iff.1 hj
  exact (h.fields hs hone hC).2 j f hf
abbrev Rt (en : TypeId × Value → H) (w : World) (base : Nat) (sp : Nat → Bool) (hd : Bool) (t : TypeId) (cs : List Value) : Prop := Rd en Try.prog w base sp hd t cs
theorem Rt.ints {cs : List Value} (h : Rt en w base sp hd 23 cs) : ∃ v l, cs = [v] ∧ Sl cInt w w.heap.size v l :=
  Rd.sl u_ints c_int b_int (fun _ => rfl) (by decide) (fun cs' _ h => h.int u_int) h
theorem Rt.rows {cs : List Value} (h : Rt en w base sp hd 26 cs) : ∃ v l, cs = [v] ∧ SlSl cInt w w.heap.size v l := by
  obtain ⟨A, c, l, vs, rfl, h1, h2, h3, h4⟩ := Rd.cells (α := List Int) (k := 1) (enc := fun v _ => [v]) (Q := fun v x => Sl cInt w w.heap.size v x) u_rows c_ints b_ints (fun _ _ => rfl) (by decide) (fun cs' _ h => by
    obtain ⟨v, l, rfl, hs⟩ := Rt.ints h
    exact ⟨v, l, rfl, hs⟩) h
  refine ⟨_, l, rfl, A, c, vs, rfl, h1, h2, ?_, h4⟩
  have : ((l.zip vs).flatMap fun x => [x.2]) = vs := by
    rw [← List.map_eq_flatMap, List.map_snd_zip]
    omega
  rwa [this] at h3
theorem Rt.bin {cs : List Value} (hl : cs.length = 4) (h : Rt en w base sp hd 73 cs) : ∃ b, cs = cBin b := by
  match cs, hl with
  | [v0, v1, v2, v3], _ =>
    obtain ⟨x0, e0, r0⟩ := h.field s_bin o_bin (c_bin.trans n_bin.symm) f_bin 0 _ rfl
    obtain ⟨x1, e1, r1⟩ := h.field s_bin o_bin (c_bin.trans n_bin.symm) f_bin 1 _ rfl
    obtain ⟨x2, e2, r2⟩ := h.field s_bin o_bin (c_bin.trans n_bin.symm) f_bin 2 _ rfl
    obtain ⟨x3, e3, r3⟩ := h.field s_bin o_bin (c_bin.trans n_bin.symm) f_bin 3 _ rfl
    obtain rfl := Option.some.inj e0
    obtain rfl := Option.some.inj e1
    obtain rfl := Option.some.inj e2
    obtain rfl := Option.some.inj e3
    obtain ⟨b0, q0⟩ := r0.bool u_bool
    obtain ⟨b1, q1⟩ := r1.int u_int
    obtain ⟨b2, q2⟩ := r2.int u_int
    obtain ⟨b3, q3⟩ := r3.int u_int
    obtain rfl := (List.cons.inj q0).1
    obtain rfl := (List.cons.inj q1).1
    obtain rfl := (List.cons.inj q2).1
    obtain rfl := (List.cons.inj q3).1
    exact ⟨⟨b0, b1, b2, b3⟩, rfl⟩
theorem Rt.bins {cs : List Value} (h : Rt en w base sp hd 22 cs) : ∃ v l, cs = [v] ∧ Sl cBin w w.heap.size v l :=
  Rd.sl u_bins c_bin b_bin (fun _ => rfl) (by decide) (fun _ hl h => Rt.bin hl h) h
theorem Rt.plan {cs : List Value} (hl : cs.length = 2) (h : Rt en w base sp hd 25 cs) : ∃ v0 v1 p, cs = [v0, v1] ∧ PlanV w w.heap.size (.agg #[v0, v1]) p := by
  match cs, hl with
  | [v0, v1], _ =>
    obtain ⟨x0, e0, r0⟩ := h.field s_plan o_plan (c_plan.trans n_plan.symm) f_plan 0 _ rfl
    obtain ⟨x1, e1, r1⟩ := h.field s_plan o_plan (c_plan.trans n_plan.symm) f_plan 1 _ rfl
    obtain rfl := Option.some.inj e0
    obtain rfl := Option.some.inj e1
    obtain ⟨_, l0, q0, hs0⟩ := Rt.bins r0
    obtain ⟨_, l1, q1, hs1⟩ := Rt.ints r1
    obtain rfl := (List.cons.inj q0).1
    obtain rfl := (List.cons.inj q1).1
    exact ⟨_, _, ⟨l0, l1⟩, rfl, _, _, rfl, hs0, hs1⟩
theorem rd_of {P : Program} {ts : List TypeId} {ds : List (DataW H)} {j : Nat} {t : TypeId} {v : Value} {d : DataW H} {ps : List MemPlace} (hsz : (DataW.weightsEach P ts ds).all (· ≤ reachBytes) = true) (ht : ts[j]? = some t) (hds : ds[j]? = some d)
    (h : DataW.Trod en P w base sp hd t v d ps) : Rd en P w base sp hd t v.cells.toList := by
  obtain ⟨n, hn⟩ := h
  exact ⟨n, _, hn, fun k hk => by simpa using List.all_eq_true.1 hsz _ (DataW.weights_mem_each ht hds k hk)⟩
set_option maxRecDepth 100000 in
theorem plan_of {b0 : Nat} {r : Reach} {v : Value} (hv : Value.okWide Try.prog w r b0 25 v) (h : Rt en w base sp hd 25 v.cells.toList) : ∃ p, PlanV w w.heap.size v p := by
  obtain ⟨cs, rfl, hsz⟩ := okWide_struct s_plan hv
  obtain ⟨l⟩ := cs
  obtain ⟨v0, v1, p, e, hp⟩ := Rt.plan (by simpa [Value.cells] using hsz.trans c_plan) h
  have e' : l = [v0, v1] := by simpa [Value.cells] using e
  subst e'
  exact ⟨p, hp⟩
end
end Wh
namespace Wh
open Go Go.RowKit Go.ChangeShapes Go.WideShapes Go.Deep Go.Proofs

theorem u_holds : Try.prog.underlying 28 = some (.slice 65) := by kernel_rfl
theorem b_hold : 0 < Try.prog.bytesOf 65 := of_decide_eq_true (by kernel_rfl)
theorem s_hold : Try.prog.underlying 65 = some (.struct (structFields Try.prog 65)) := fields_eq (by kernel_rfl)
theorem o_hold : oneCellFields Try.prog (structFields Try.prog 65) = true := by kernel_rfl
theorem n_hold : (structFields Try.prog 65).size = 4 := by kernel_rfl
theorem c_hold : Try.prog.cellsOf 65 = 4 := by kernel_rfl
theorem f_hold : (structFields Try.prog 65).toList.map (·.type) = [3, 3, 3, 3] := by kernel_rfl

section
variable {H : Type} {en : TypeId × Value → H} {w : World} {base : Nat} {sp : Nat → Bool} {hd : Bool}
theorem Rt.four_ints {t : TypeId} (s_t : Try.prog.underlying t = some (.struct (structFields Try.prog t))) (o_t : oneCellFields Try.prog (structFields Try.prog t) = true) (c_t : Try.prog.cellsOf t = (structFields Try.prog t).size)
    (f_t : (structFields Try.prog t).toList.map (·.type) = [3, 3, 3, 3]) {cs : List Value} (hl : cs.length = 4) (h : Rt en w base sp hd t cs) : ∃ a b c d : Int, cs = [.int .i64 a, .int .i64 b, .int .i64 c, .int .i64 d] := by
  match cs, hl with
  | [v0, v1, v2, v3], _ =>
    obtain ⟨x0, e0, r0⟩ := h.field s_t o_t c_t f_t 0 _ rfl
    obtain ⟨x1, e1, r1⟩ := h.field s_t o_t c_t f_t 1 _ rfl
    obtain ⟨x2, e2, r2⟩ := h.field s_t o_t c_t f_t 2 _ rfl
    obtain ⟨x3, e3, r3⟩ := h.field s_t o_t c_t f_t 3 _ rfl
    obtain rfl := Option.some.inj e0
    obtain rfl := Option.some.inj e1
    obtain rfl := Option.some.inj e2
    obtain rfl := Option.some.inj e3
    obtain ⟨b0, q0⟩ := r0.int u_int
    obtain ⟨b1, q1⟩ := r1.int u_int
    obtain ⟨b2, q2⟩ := r2.int u_int
    obtain ⟨b3, q3⟩ := r3.int u_int
    obtain rfl := (List.cons.inj q0).1
    obtain rfl := (List.cons.inj q1).1
    obtain rfl := (List.cons.inj q2).1
    obtain rfl := (List.cons.inj q3).1
    exact ⟨b0, b1, b2, b3, rfl⟩
theorem Rt.hold {cs : List Value} (hl : cs.length = 4) (h : Rt en w base sp hd 65 cs) : ∃ x, cs = cHold x := by
  obtain ⟨a, b, c, d, rfl⟩ := Rt.four_ints s_hold o_hold (c_hold.trans n_hold.symm) f_hold hl h
  exact ⟨⟨a, b, c, d⟩, rfl⟩
theorem Rt.holds {cs : List Value} (h : Rt en w base sp hd 28 cs) : ∃ v l, cs = [v] ∧ Sl cHold w w.heap.size v l :=
  Rd.sl u_holds c_hold b_hold (fun _ => rfl) (by decide) (fun _ hl h => Rt.hold hl h) h
end
end Wh
