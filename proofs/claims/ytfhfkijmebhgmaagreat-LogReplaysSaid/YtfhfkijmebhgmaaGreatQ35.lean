/- Texts of the claim, joined: CountE. -/
import Derived.Test.YtfhfkijmebhgmaaGreatQ33
import Derived.Test.YtfhfkijmebhgmaaGreatQ34
import Derived.Test.YtfhfkijmebhgmaaGreatQ24
import Derived.Test.YtfhfkijmebhgmaaGreatQ12
import Derived.Test.YtfhfkijmebhgmaaGreatQ07
namespace Wh
open Go Go.RowKit Go.Shelf Go.Proofs Go.Maps
attribute [local go_sem] run_indexAt_letter evL_tmp evL_const evL_func

/-- The cutter that Count makes. -/
def CutBox (B : Nat) (bn g v : Int) (s : State) (b : Nat) (w : World) : Prop := ∃ (V : SV) (mb : Nat), Bx w B b 95 (cutR bn g v (.map (some mb))) V s ∧ B ≤ b ∧ B ≤ mb ∧ w.ownsMap Tryz.prog 3 (plainElem (H := Unit) Tryz.prog 3) mb 0 (.map [])

set_option maxHeartbeats 2000000 in
set_option maxRecDepth 100000 in
theorem ctCount (w : World) (v vs : Value) (p : Plan) (s : State) (b g n : Int) (hp : PlanV w w.heap.size v p) (hv : StateV w w.heap.size vs s) :
    Calls Tryz.prog 20 #[v, vs, .int .i64 b, .int .i64 g, .int .i64 n] w (ActPost (count p s b g n) w) := by
  obtain ⟨Ab, cb, As, cs, rfl, hP', hBn, hSz, hlb, hls⟩ := openPl hp
  obtain ⟨A0, c0, A1, c1, A2, c2, A3, c3, A4, c4, A5, c5, A6, c6, rfl, hV, hN, hO, hH, hM, hI, hU, hX, hl0, hl1, hl2, hl3, hl4, hl5, hl6⟩ := openOne hv
  go_enter Tryz.func20, Tryz.ntmps20
  go_wp2_with fail
  obtain ⟨W0, hW0, hb0, hsz0, hsz1, hsE, hK, hR⟩ := boxesAct w p s Ab cb As cs A0 c0 A1 c1 A2 c2 A3 c3 A4 c4 A5 c5 A6 c6
  rw [hW0]
  clear hW0
  obtain ⟨⟨y0, y1⟩, x0, x1, x2, x3, x4, x5, x6, hbz0, hbz1⟩ := hK.out W0 (Below.refl W0.heap.size W0)
  go_wp2_with fail
  clear y0 y1 x0 x1 x2 x3 x4 x5 x6 hbz0 hbz1
  refine (sCheck _ _ _ p s (hP'.out _ hb0) (hV.out _ hb0)).mono ?_
  rintro e W1 ⟨rfl, h1⟩
  have hB1 := hb0.trans (h1.mono hb0.size)
  obtain ⟨⟨y0, y1⟩, x0, x1, x2, x3, x4, x5, x6, hbz0, hbz1⟩ := hK.out W1 (h1)
  by_cases hc : checkState p s = 0
  · have hc' := Lib.hid hc
    have hsn := Lib.hid (checkState_zero.1 hc).1
    rw [hc]
    clear hc
    go_wp2_with fail
    clear y0 y1 x0 x1 x2 x3 x4 x5 x6 hbz0 hbz1
    refine (shThere _ _ p b g (hP'.out _ hB1)).mono ?_
    rintro e W2 ⟨rfl, h2⟩
    have h02 := h1.trans (h2.mono h1.size)
    have hB2 := hb0.trans (h02.mono hb0.size)
    clear h2 h1 hB1
    obtain ⟨⟨y0, y1⟩, x0, x1, x2, x3, x4, x5, x6, hbz0, hbz1⟩ := hK.out W2 (h02)
    cases ht : (isBin p b && isGood p g)
    · have hfin := Lib.hid (count_range (n := n) hc'.out (by rw [ht]; rfl))
      clear ht
      have hbx9 := hR.out _ h02
      go_wp2_with (refine wpList_store_state rfl (.tmp 10) (.tmp 37) rfl rfl (w.heap.size + 1 + 1) nilSV nilSV hbx9 rfl rfl rfl (fun w9 hbox9 hg9 => ?_))
      obtain ⟨p0, p1, p2, p3, p4, p5, p6⟩ := BoxAt.cells hbox9
      have hfin9 : Below w.heap.size w w9 := Below.grown hB2 hg9 (Below.size hB2) (fun k hk => by injection hk with hk; omega)
      go_wp2_with fail
      exact bodyPost_ret (v := .tuple #[nilSV.val, .int .i64 3]) (by simp [results, Tryz.results20, go_sem, SV.val, p0, p1, p2, p3, p4, p5, p6]) rfl (actErr hfin.out hfin9)
    by_cases g2 : n < 0
    · have hfin := Lib.hid (count_range (n := n) hc'.out (by rw [ht, Bool.true_and]; exact within_false.2 (.inl g2)))
      clear ht
      have hbx9 := hR.out _ h02
      go_wp2_with (refine wpList_store_state rfl (.tmp 10) (.tmp 37) rfl rfl (w.heap.size + 1 + 1) nilSV nilSV hbx9 rfl rfl rfl (fun w9 hbox9 hg9 => ?_))
      obtain ⟨p0, p1, p2, p3, p4, p5, p6⟩ := BoxAt.cells hbox9
      have hfin9 : Below w.heap.size w w9 := Below.grown hB2 hg9 (Below.size hB2) (fun k hk => by injection hk with hk; omega)
      go_wp2_with fail
      exact bodyPost_ret (v := .tuple #[nilSV.val, .int .i64 3]) (by simp [results, Tryz.results20, go_sem, SV.val, p0, p1, p2, p3, p4, p5, p6]) rfl (actErr hfin.out hfin9)
    by_cases g3 : 200 < n
    · have hfin := Lib.hid (count_range (n := n) hc'.out (by rw [ht, Bool.true_and]; exact within_false.2 (.inr g3)))
      clear ht
      have hbx9 := hR.out _ h02
      go_wp2_with (refine wpList_store_state rfl (.tmp 10) (.tmp 37) rfl rfl (w.heap.size + 1 + 1) nilSV nilSV hbx9 rfl rfl rfl (fun w9 hbox9 hg9 => ?_))
      obtain ⟨p0, p1, p2, p3, p4, p5, p6⟩ := BoxAt.cells hbox9
      have hfin9 : Below w.heap.size w w9 := Below.grown hB2 hg9 (Below.size hB2) (fun k hk => by injection hk with hk; omega)
      go_wp2_with fail
      exact bodyPost_ret (v := .tuple #[nilSV.val, .int .i64 3]) (by simp [results, Tryz.results20, go_sem, SV.val, p0, p1, p2, p3, p4, p5, p6]) rfl (actErr hfin.out hfin9)
    have gd2 : decide (n < 0) = false := decide_eq_false g2
    have gd3 : decide (200 < n) = false := decide_eq_false g3
    rw [Bool.and_eq_true] at ht
    obtain ⟨ht1, ht2⟩ := ht
    have ht1 := isBin_iff.1 ht1
    have ht2 := isGood_iff.1 ht2
    obtain ⟨i, rfl⟩ : ∃ i : Nat, b = i := ⟨b.toNat, by omega⟩
    obtain ⟨j, rfl⟩ : ∃ j : Nat, g = j := ⟨g.toNat, by omega⟩
    have hi : i < p.bins.length := by omega
    have hj : j < p.sizes.length := by omega
    have hio : i < s.on.length := by rw [hsn.out.onLen]; exact hi
    have hjr : j < (rowAt s.on i).length := by rw [hsn.out.rowLen hi]; exact hj
    have hjf : j < s.fixed.length := by rw [hsn.out.fixed.1]; exact hj
    have hioi : (i : Int) < (s.on.length : Int) := by omega
    have hjri : (j : Int) < ((rowAt s.on i).length : Int) := by omega
    have hjfi : (j : Int) < (s.fixed.length : Int) := by omega
    obtain ⟨Ar, cr, or0, lr0, rr0, hrow⟩ := (hN.out W2 hB2).row hio
    obtain ⟨or1, lr1, rr1⟩ := hrow.at_.int hjr
    change W2.cell? _ = some (.int .i64 (cell s.on i j)) at rr1
    obtain ⟨or2, lr2, rr2⟩ := (hX.out W2 hB2).at_.int hjf
    change W2.cell? _ = some (.int .i64 (intAt s.fixed j)) at rr2
    have hcell := hsn.out.cell hi hj
    have hfx := hsn.out.fixed.2 hj
    have hw1 : IntKind.i64.wrap (intAt s.fixed j + n) = intAt s.fixed j + n := IntWalk.i64_in _ (by omega)
    have hw2 : IntKind.i64.wrap (intAt s.fixed j + n - cell s.on i j) = intAt s.fixed j + n - cell s.on i j := IntWalk.i64_in _ (by omega)
    go_wp2_with fail
    go_quiet (fail)
    have h0d := below_drewN h02 nq
    have hBd := below_drewN hB2 nq
    clear y0 y1 x0 x1 x2 x3 x4 x5 x6 hbz0 hbz1
    clear or0 lr0 rr0 hrow or1 lr1 rr1 or2 lr2 rr2 hw1 hw2 h02 hB2
    generalize W2.drewN nq = W3 at h0d hBd ⊢
    obtain ⟨⟨y0, y1⟩, x0, x1, x2, x3, x4, x5, x6, hbz0, hbz1⟩ := hK.out W3 (h0d)
    by_cases g4 : intAt s.fixed j + n - cell s.on i j < -1048576
    · have hfin := Lib.hid (count_many hc'.out hi hj ⟨by omega, by omega⟩ (.inl g4))
      have hbx9 := hR.out _ h0d
      go_wp2_with (refine wpList_store_state rfl (.tmp 10) (.tmp 60) rfl rfl (w.heap.size + 1 + 1) nilSV nilSV hbx9 rfl rfl rfl (fun w9 hbox9 hg9 => ?_))
      obtain ⟨p0, p1, p2, p3, p4, p5, p6⟩ := BoxAt.cells hbox9
      have hfin9 : Below w.heap.size w w9 := Below.grown hBd hg9 (Below.size hBd) (fun k hk => by injection hk with hk; omega)
      go_wp2_with fail
      exact bodyPost_ret (v := .tuple #[nilSV.val, .int .i64 2]) (by simp [results, Tryz.results20, go_sem, SV.val, p0, p1, p2, p3, p4, p5, p6]) rfl (actErr hfin.out hfin9)
    by_cases g5 : 1048576 < intAt s.fixed j + n - cell s.on i j
    · have hfin := Lib.hid (count_many hc'.out hi hj ⟨by omega, by omega⟩ (.inr g5))
      have hbx9 := hR.out _ h0d
      go_wp2_with (refine wpList_store_state rfl (.tmp 10) (.tmp 60) rfl rfl (w.heap.size + 1 + 1) nilSV nilSV hbx9 rfl rfl rfl (fun w9 hbox9 hg9 => ?_))
      obtain ⟨p0, p1, p2, p3, p4, p5, p6⟩ := BoxAt.cells hbox9
      have hfin9 : Below w.heap.size w w9 := Below.grown hBd hg9 (Below.size hBd) (fun k hk => by injection hk with hk; omega)
      go_wp2_with fail
      exact bodyPost_ret (v := .tuple #[nilSV.val, .int .i64 2]) (by simp [results, Tryz.results20, go_sem, SV.val, p0, p1, p2, p3, p4, p5, p6]) rfl (actErr hfin.out hfin9)
    have gd4 : decide (intAt s.fixed j + n - cell s.on i j < -1048576) = false := decide_eq_false g4
    have gd5 : decide (1048576 < intAt s.fixed j + n - cell s.on i j) = false := decide_eq_false g5
    have hcs := Lib.hid (show Counts p s i j n from ⟨hi, hj, by omega, by omega, by omega, by omega⟩)
    have hfin := Lib.hid (count_ok hc'.out hcs.out)
    have hbd := bound_range hsn.out i j
    have hw4 : IntKind.i64.wrap (bound s i j - n) = bound s i j - n := IntWalk.i64_in _ (by omega)
    have hmm := @run_makeMap Tryz.prog
    go_wp2_with fail
    clear y0 y1 x0 x1 x2 x3 x4 x5 x6 hbz0 hbz1
    clear hioi hjri hjfi
    have hmm' := Lib.hid hmm
    clear hmm
    refine wp_region_ops 14 [fun gq _ => gq 61 = .agg #[.slice A0 s.on.length c0, .slice A1 s.orders.length c1, .slice A2 s.holds.length c2, .slice A3 s.moves.length c3, .slice A4 s.inn.length c4, .slice A5 s.out.length c5, .slice A6 s.fixed.length c6], fun gq w' => (fun v w' => ∃ V : SV, v = V.val ∧ OwnSt w' W3.heap.size V s) (gq 62) w', fun gq _ => gq 63 = .int .i64 i, fun gq _ => gq 64 = .int .i64 j, fun gq _ => gq 65 = .agg #[.slice A0 s.on.length c0, .slice A1 s.orders.length c1, .slice A2 s.holds.length c2, .slice A3 s.moves.length c3, .slice A4 s.inn.length c4, .slice A5 s.out.length c5, .slice A6 s.fixed.length c6], fun gq _ => gq 66 = .int .i64 i, fun gq _ => gq 67 = .int .i64 j, fun gq w' => (fun v w' => v = .int .i64 (bound s i j)) (gq 68) w', fun gq _ => gq 69 = .int .i64 n, fun gq _ => gq 70 = .int .i64 (bound s i j - n), fun gq w' => (fun v w' => ∃ mb, v = .map (some mb) ∧ W3.heap.size ≤ mb ∧ w'.ownsMap Tryz.prog 3 (plainElem (H := Unit) Tryz.prog 3) mb 0 (.map [])) (gq 71) w', fun gq w' => (fun v w' => ∃ (V : SV) (mb : Nat), v = .agg #[V.on, V.orders, V.holds, V.moves, V.inn, V.out, V.fixed, .int .i64 i, .int .i64 j, .int .i64 (bound s i j - n), .map (some mb)] ∧ OwnSt w' W3.heap.size V s ∧ W3.heap.size ≤ mb ∧ w'.ownsMap Tryz.prog 3 (plainElem (H := Unit) Tryz.prog 3) mb 0 (.map [])) (gq 72) w', fun gq w' => (fun v w' => ∃ bb, v = .pointer (some ⟨bb, 0, none⟩) ∧ CutBox W3.heap.size i j (bound s i j - n) s bb w') (gq 73) w', fun gq w' => (fun v w' => ∃ bb, v = .pointer (some ⟨bb, 0, none⟩) ∧ CutBox W3.heap.size i j (bound s i j - n) s bb w') (gq 14) w'] (by kernel_rfl) (by kernel_rfl) rfl (by kernel_rfl) ?_ (fun f W5 hb5 hR => ?_)
    simp only [List.take_succ_cons, List.take_zero]
    refine OpsOK.cons (OpOK.val rfl rfl (fun gq w' hb ho hd => ?_)) ?_
    · have e6 := ho 6 rfl
      obtain ⟨⟨y0, y1⟩, x0, x1, x2, x3, x4, x5, x6, hbz0, hbz1⟩ := hK.out w' (h0d.trans (hb.mono h0d.size))
      go_simp
    refine OpsOK.cons (OpOK.one (d := 62) (p := (fun v w' => ∃ V : SV, v = V.val ∧ OwnSt w' W3.heap.size V s)) rfl rfl (fun v w1 w2 h hb => let ⟨V, h1, h2⟩ := h; ⟨V, h1, h2.below hb⟩) (fun gq w' hb ho hd => ?_)) ?_
    · have e61 : gq 61 = .agg #[.slice A0 s.on.length c0, .slice A1 s.orders.length c1, .slice A2 s.holds.length c2, .slice A3 s.moves.length c3, .slice A4 s.inn.length c4, .slice A5 s.out.length c5, .slice A6 s.fixed.length c6] := hd ⟨0, .data⟩ (by simp) rfl (by decide)
      unfold OpRel
      go_simp
      refine (sOwn w' _ p s (hV.out _ (hBd.trans (hb.mono hBd.size))) hsn.out).mono ?_
      rintro e w2 ⟨u, rfl, ⟨V, rfl, ho2⟩, hb2⟩
      exact ⟨_, rfl, ⟨V, rfl, ho2.from_ hb.size⟩, hb2⟩
    refine OpsOK.cons (OpOK.val rfl rfl (fun gq w' hb ho hd => ?_)) ?_
    · have e2 := ho 2 rfl
      go_simp
    refine OpsOK.cons (OpOK.val rfl rfl (fun gq w' hb ho hd => ?_)) ?_
    · have e3 := ho 3 rfl
      go_simp
    refine OpsOK.cons (OpOK.val rfl rfl (fun gq w' hb ho hd => ?_)) ?_
    · have e6 := ho 6 rfl
      obtain ⟨⟨y0, y1⟩, x0, x1, x2, x3, x4, x5, x6, hbz0, hbz1⟩ := hK.out w' (h0d.trans (hb.mono h0d.size))
      go_simp
    refine OpsOK.cons (OpOK.val rfl rfl (fun gq w' hb ho hd => ?_)) ?_
    · have e2 := ho 2 rfl
      go_simp
    refine OpsOK.cons (OpOK.val rfl rfl (fun gq w' hb ho hd => ?_)) ?_
    · have e3 := ho 3 rfl
      go_simp
    refine OpsOK.cons (OpOK.one (d := 68) (p := (fun v w' => v = .int .i64 (bound s i j))) rfl rfl (fun v w1 w2 h hb => h) (fun gq w' hb ho hd => ?_)) ?_
    · have e65 : gq 65 = .agg #[.slice A0 s.on.length c0, .slice A1 s.orders.length c1, .slice A2 s.holds.length c2, .slice A3 s.moves.length c3, .slice A4 s.inn.length c4, .slice A5 s.out.length c5, .slice A6 s.fixed.length c6] := hd ⟨4, .data⟩ (by simp) rfl (by decide)
      have e66 : gq 66 = .int .i64 i := hd ⟨5, .data⟩ (by simp) rfl (by decide)
      have e67 : gq 67 = .int .i64 j := hd ⟨6, .data⟩ (by simp) rfl (by decide)
      unfold OpRel
      go_simp
      refine (sBound w' _ p s i j (hV.out _ (hBd.trans (hb.mono hBd.size))) hsn.out).mono ?_
      rintro e w2 ⟨rfl, hb2⟩
      exact ⟨_, rfl, rfl, hb2⟩
    refine OpsOK.cons (OpOK.val rfl rfl (fun gq w' hb ho hd => ?_)) ?_
    · have e4 := ho 4 rfl
      go_simp
    refine OpsOK.cons (OpOK.val rfl rfl (fun gq w' hb ho hd => ?_)) ?_
    · have e68 : (gq 68) = .int .i64 (bound s i j) := hd ⟨7, .data⟩ (by simp) rfl (by decide)
      have e69 : gq 69 = .int .i64 n := hd ⟨8, .data⟩ (by simp) rfl (by decide)
      go_simp
    refine OpsOK.cons (OpOK.one (d := 71) (p := (fun v w' => ∃ mb, v = .map (some mb) ∧ W3.heap.size ≤ mb ∧ w'.ownsMap Tryz.prog 3 (plainElem (H := Unit) Tryz.prog 3) mb 0 (.map []))) rfl rfl (fun v w1 w2 h hb => let ⟨mb, h1, h2, h3⟩ := h; ⟨mb, h1, h2, h3.kept (grown_of_below (row := none) hb) (by simp)⟩) (fun gq w' hb ho hd => ?_)) ?_
    · have hmm := hmm'.out
      unfold OpRel
      go_simp
      exact ⟨⟨hb.size, World.ownsMap_made _ _ _ _⟩, (Below.refl _ _).alloc (Nat.le_refl _) _⟩
    refine OpsOK.cons (OpOK.one (d := 72) (p := (fun v w' => ∃ (V : SV) (mb : Nat), v = .agg #[V.on, V.orders, V.holds, V.moves, V.inn, V.out, V.fixed, .int .i64 i, .int .i64 j, .int .i64 (bound s i j - n), .map (some mb)] ∧ OwnSt w' W3.heap.size V s ∧ W3.heap.size ≤ mb ∧ w'.ownsMap Tryz.prog 3 (plainElem (H := Unit) Tryz.prog 3) mb 0 (.map []))) rfl rfl (fun v w1 w2 h hb => let ⟨V, mb, h1, h2, h3, h4⟩ := h; ⟨V, mb, h1, h2.below hb, h3, h4.kept (grown_of_below (row := none) hb) (by simp)⟩) (fun gq w' hb ho hd => ?_)) ?_
    · have e62 : ∃ V : SV, (gq 62) = V.val ∧ OwnSt w' W3.heap.size V s := hd ⟨1, .data⟩ (by simp) rfl (by decide)
      have e63 : gq 63 = .int .i64 i := hd ⟨2, .data⟩ (by simp) rfl (by decide)
      have e64 : gq 64 = .int .i64 j := hd ⟨3, .data⟩ (by simp) rfl (by decide)
      have e70 : gq 70 = .int .i64 (bound s i j - n) := hd ⟨9, .data⟩ (by simp) rfl (by decide)
      have e71 : ∃ mb, (gq 71) = .map (some mb) ∧ W3.heap.size ≤ mb ∧ w'.ownsMap Tryz.prog 3 (plainElem (H := Unit) Tryz.prog 3) mb 0 (.map []) := hd ⟨10, .data⟩ (by simp) rfl (by decide)
      obtain ⟨⟨k0, k1, k2, k3, k4, k5, k6, k7, k8⟩, e62, ho2⟩ := e62
      simp only [SV.val] at e62
      obtain ⟨mb, e71, hmb, hown⟩ := e71
      have ho2' := Lib.hid ho2
      have hown' := Lib.hid hown
      have hmb' := Lib.hid hmb
      clear ho2 hown hmb
      unfold OpRel
      go_simp
      refine ⟨⟨⟨k0, k1, k2, k3, k4, k5, k6, k7, k8⟩, mb, by simp, ho2'.out, hmb'.out, hown'.out⟩, Below.refl _ _⟩
    refine OpsOK.cons (OpOK.one (d := 73) (p := (fun v w' => ∃ bb, v = .pointer (some ⟨bb, 0, none⟩) ∧ CutBox W3.heap.size i j (bound s i j - n) s bb w')) rfl rfl (fun v w1 w2 h hb => let ⟨bb, h1, V, mb, h2, h3, h4, h5⟩ := h; ⟨bb, h1, V, mb, h2.below hb, h3, h4, h5.kept (grown_of_below (row := none) hb) (by simp)⟩) (fun gq w' hb ho hd => ?_)) ?_
    · have e72 : ∃ (V : SV) (mb : Nat), (gq 72) = .agg #[V.on, V.orders, V.holds, V.moves, V.inn, V.out, V.fixed, .int .i64 i, .int .i64 j, .int .i64 (bound s i j - n), .map (some mb)] ∧ OwnSt w' W3.heap.size V s ∧ W3.heap.size ≤ mb ∧ w'.ownsMap Tryz.prog 3 (plainElem (H := Unit) Tryz.prog 3) mb 0 (.map []) := hd ⟨11, .data⟩ (by simp) rfl (by decide)
      obtain ⟨⟨k0, k1, k2, k3, k4, k5, k6, k7, k8⟩, mb, e72, ho2, hmb, hown⟩ := e72
      simp only at e72
      have ho2' := Lib.hid ho2
      have hown' := Lib.hid hown
      have hmb' := Lib.hid hmb
      have hbz := Lib.hid hb.size
      clear ho2 hown hmb
      unfold OpRel
      go_simp
      exact ⟨⟨⟨k0, k1, k2, k3, k4, k5, k6, k7, k8⟩, mb, ⟨Blk.new _ _ _, (ho2'.out).alloc _, boxTC⟩, hbz.out, hmb'.out, hown'.out.alloc _⟩, (Below.refl _ _).alloc (Nat.le_refl _) _⟩
    refine OpsOK.cons (OpOK.one (d := 14) (p := (fun v w' => ∃ bb, v = .pointer (some ⟨bb, 0, none⟩) ∧ CutBox W3.heap.size i j (bound s i j - n) s bb w')) rfl rfl (fun v w1 w2 h hb => let ⟨bb, h1, V, mb, h2, h3, h4, h5⟩ := h; ⟨bb, h1, V, mb, h2.below hb, h3, h4, h5.kept (grown_of_below (row := none) hb) (by simp)⟩) (fun gq w' hb ho hd => ?_)) ?_
    · have e73 : ∃ bb, (gq 73) = .pointer (some ⟨bb, 0, none⟩) ∧ CutBox W3.heap.size i j (bound s i j - n) s bb w' := hd ⟨12, .data⟩ (by simp) rfl (by decide)
      obtain ⟨bb, e73, hcb⟩ := e73
      have hcb' := Lib.hid hcb
      clear hcb
      unfold OpRel
      go_simp
      exact ⟨hcb'.out, Below.refl _ _⟩
    exact OpsOK.nil
    obtain ⟨r61, r62, r63, r64, r65, r66, r67, r68, r69, r70, r71, r72, r73, r14, _⟩ := hR
    replace r62 : ∃ V : SV, (f 62) = V.val ∧ OwnSt W5 W3.heap.size V s := r62
    replace r68 : (f 68) = .int .i64 (bound s i j) := r68
    replace r71 : ∃ mb, (f 71) = .map (some mb) ∧ W3.heap.size ≤ mb ∧ W5.ownsMap Tryz.prog 3 (plainElem (H := Unit) Tryz.prog 3) mb 0 (.map []) := r71
    replace r72 : ∃ (V : SV) (mb : Nat), (f 72) = .agg #[V.on, V.orders, V.holds, V.moves, V.inn, V.out, V.fixed, .int .i64 i, .int .i64 j, .int .i64 (bound s i j - n), .map (some mb)] ∧ OwnSt W5 W3.heap.size V s ∧ W3.heap.size ≤ mb ∧ W5.ownsMap Tryz.prog 3 (plainElem (H := Unit) Tryz.prog 3) mb 0 (.map []) := r72
    replace r73 : ∃ bb, (f 73) = .pointer (some ⟨bb, 0, none⟩) ∧ CutBox W3.heap.size i j (bound s i j - n) s bb W5 := r73
    replace r14 : ∃ bb, (f 14) = .pointer (some ⟨bb, 0, none⟩) ∧ CutBox W3.heap.size i j (bound s i j - n) s bb W5 := r14
    simp only [fillA, fillT, List.take_succ_cons, List.take_zero, List.drop_succ_cons, List.drop_zero, List.filterMap_cons, List.filterMap_nil, List.foldl_cons, List.foldl_nil, List.setIfInBounds_toArray, List.set_cons_zero, List.set_cons_succ, r61, r63, r64, r65, r66, r67, r68, r69, r70]
    clear r61 r63 r64 r65 r66 r67 r68 r69 r70
    obtain ⟨bx, r14, V, mb, hx5, hbx, hmb, hown⟩ := r14
    simp only [r14]
    clear r14 r62 r71 r72 r73
    refine wpList_nil ?_
    have h05 := h0d.trans (hb5.mono h0d.size)
    have hle : w.heap.size ≤ W3.heap.size := hBd.size
    have hle0 : W0.heap.size ≤ W3.heap.size := h0d.size
    have hx5' := Lib.hid hx5
    have hown' := Lib.hid hown
    have hbx5 := hx5.lt
    clear hx5 hown h0d hBd hb5 hmm' hw4
    generalize W3.heap.size = base at hx5' hbx hmb hle hle0
    obtain ⟨gf, cf, curf, ef, hgfb, hbf, rf⟩ := OwnSt.intAtOwn hx5'.out.own.fixed (g := j) (by rw [hsn.out.fixed.1]; exact hj)
    have c6 := hx5'.out.cells.2.2.2.2.2.2
    rw [ef] at c6
    have ef' := Lib.hid ef
    clear ef
    go_wp2_with (refine wp_st_fixed rfl (.tmp 81) (.tmp 80) rfl rfl (g := j) (q := intAt s.fixed j + n - cell s.on i j) hx5'.out (by rw [hsn.out.fixed.1]; exact hj) ef'.out rfl rfl (fun w6 hx6 hst6 => ?_); refine Hid.out ?_)
    unfold Hid
    have hown6 := ownsMap_step hown'.out hst6 (fun h => ownsMap_ne hown'.out hbf h)
    have h06 := h05.trans (hst6.below (B := W0.heap.size) (fun q hq => by omega) h05.size)
    have hx6' := Lib.hid hx6
    have hown6' := Lib.hid hown6
    clear hx6 hst6 hown6 hown' hx5' h05 c6 rf hbf ef' hgfb
    obtain ⟨gon, con, cur0, gr, cr, cur, eon, hgon, hbn0, r0, er, hgrb, hbr, rc⟩ := hx6'.out.own.onAt (b := i) (g := j) hio hjr
    have c0 := hx6'.out.cells.1
    rw [eon] at c0
    change w6.cell? _ = some (.slice _ (rowAt s.on i).length _) at r0
    change w6.cell? _ = some (.slice _ s.on.length _) at c0
    have er' := Lib.hid er
    clear eon er hbn0
    have hioi : (i : Int) < (s.on.length : Int) := by omega
    have hjri : (j : Int) < ((rowAt s.on i).length : Int) := by omega
    go_wp2_with (refine wp_st_on rfl (.tmp 92) (.tmp 91) rfl rfl (i := i) (g := j) (q := n) hx6'.out hio hjr er'.out rfl rfl (fun w7 hx7 hst7 => ?_); refine Hid.out ?_)
    unfold Hid
    have hown7 := ownsMap_step hown6'.out hst7 (fun h => ownsMap_ne hown6'.out hbr h)
    have h07 := h06.trans (hst7.below (B := W0.heap.size) (fun q hq => by omega) h06.size)
    have hx7' := Lib.hid hx7
    have hown7' := Lib.hid hown7
    clear hx7 hst7 hown7 hown6' hx6' h06 c0 r0 rc hbr er' hgon hgrb hioi hjri
    have hmv1 := Lib.hid (show ∀ x ∈ s.moves, 1 ≤ x.n ∧ x.n ≤ 200 from fun x hx => by
      obtain ⟨q, hq, rfl⟩ := List.getElem_of_mem hx
      have := hsn.out.moveAt hq
      rw [moveAt_eq hq] at this
      exact ⟨this.2.2.2.2.1, this.2.2.2.2.2⟩)
    have hmid := Cutter.mid_over (C := mvC i j) (l := s.moves) (fun x hx => by have := (hmv1.out x hx).1; show 0 ≤ x.n; omega) (bound s i j - n) 0
    have hm8 := hsn.out.moves8
    go_wp2_with fail
    refine (ctMoves w7 hx7'.out (by omega) hm8 hmv1.out (by omega)).mono ?_
    rintro e w8 ⟨rfl, V8, hV8, hx8, hst8⟩
    have hown8 := ownsMap_step hown7'.out hst8 (fun h => h.elim (fun h => ownsMap_ne hown7'.out hx7'.out.box h) (fun h => by
      obtain ⟨cur, hcb⟩ := hx7'.out.own.moves.block h
      obtain ⟨o', ho1, ho2⟩ := ownsMap_obj hown7'.out
      rw [hcb] at ho1
      injection ho1 with ho1
      subst ho1
      cases ho2))
    have h08 := h07.trans (hst8.below (B := W0.heap.size) (fun q hq => by
      rcases hq with rfl | hq
      · omega
      · have := (hx7'.out.own.moves.size q hq).1
        omega) h07.size)
    have hx8' := Lib.hid hx8
    have hown8' := Lib.hid hown8
    have hin := Lib.hid (show ∀ q (hq : q < s.holds.length), ∃ o k : Nat, s.holds[q].order = o ∧ s.holds[q].line = k ∧ o < s.orders.length ∧ k < (s.order o).lines.length from fun q hq => by
      have := hsn.out.holdAt hq
      rw [hold_get hq] at this
      obtain ⟨⟨a1, a2⟩, ⟨a3, a4⟩, _⟩ := this
      refine ⟨s.holds[q].order.toNat, s.holds[q].line.toNat, by omega, by omega, by omega, by omega⟩)
    have hbk := Lib.hid (show ∀ o k : Nat, o < s.orders.length → k < (s.order o).lines.length → 0 ≤ (s.line o k).back ∧ (s.line o k).back ≤ 200 from fun o k ho hk => by
      have := hsn.out.line ho hk
      omega)
    have hmbw := Nat.lt_of_lt_of_le hown8.lt (Nat.le_refl _)
    clear hx8 hst8 hown8 hown7' hx7' h07
    go_wp2_with fail
    refine (ctHolds w8 hx8'.out hbx hmbw hmb hown8'.out hsn.out.holds (by omega) hin.out hbk.out).mono ?_
    rintro e w9 ⟨rfl, V9, ov9, D, hV9, hx9, hst9, hmap9, hown9⟩
    have hcutS := cut_is_hd (b := i) (g := j) (seen := n) hsn.out
    have hx9' : Bx w9 base bx 95 (cutR i j ov9 (.map (some mb))) V9 (cutS s i j n (over s i j n)) := by rw [hcutS]; exact hx9
    have hcH : cutHd s i j (over s i j n) = (hdC s i j).rest s.holds ((mvC i j).mid s.moves (bound s i j - n) 0).2 := congrArg State.holds hcutS
    have h09 := h08.trans (hst9.below (B := W0.heap.size) (fun q hq => by
      rcases hq with rfl | hq | rfl | ⟨o, ho, hq⟩
      · omega
      · have := (hx8'.out.own.holds.size q hq).1
        omega
      · omega
      · have := ((hx8'.out.own.line o (by rw [← hx8'.out.own.llen]; exact ho)).size q hq).1
        omega) h08.size)
    obtain ⟨s1, hs1⟩ : ∃ s1 : State, s1 = { s with on := setCell s.on i j n, fixed := s.fixed.set j (intAt s.fixed j + n - cell s.on i j), moves := (mvC i j).rest s.moves (bound s i j - n) } := ⟨_, rfl⟩
    have hmap9' : CutMap s1 i j (cutHd s i j (over s i j n)) 0 D := by rw [hcH, hs1]; exact hmap9
    have h1 : s1.holds = s.holds := by rw [hs1]
    have h2 : hdC s1 i j = hdC s i j := by rw [hs1]; rfl
    have hmp := Lib.hid hmap9'
    have h1' := Lib.hid h1
    have h2' := Lib.hid h2
    have hx9h := Lib.hid hx9'
    have hlenh : s.holds.length ≤ 72 := ok_len72 hsn.out.holds
    have hown9' := Lib.hid hown9
    have hD72 := Lib.hid (show Maps.size D ≤ 1000000 from Nat.le_trans hown9.size_le (by show s.holds.length ≤ 1000000; omega))
    have hoL := Lib.hid (show s.orders.length ≤ 4 from hsn.out.orders4)
    have z9 := hx9'.box.cell (j := 10) rfl
    have lb9 := hx9'.lt
    clear hcutS hcH hmap9 hmap9' h1 h2 hs1 hx9 hx9' hst9 hown9 h08 hx8' hown8' hV9 hV8 hmbw hin hbk hmid hmv1
    go_wp2_with fail
    refine (keysOf (some mb) w9).mono ?_
    rintro e w10 ⟨rfl, rfl⟩
    go_wp2_with fail
    refine (sortedKeys mb _ D _ w9 hown9'.out hD72.out).mono ?_
    rintro e w11 ⟨vk, ss, rfl, hperm, hrow, hb11⟩
    have hks := keys_sorted hsn.out hmp.out h1'.out hown9'.out hperm
    have hkl : ss.length = (keyList s D).length := by
      have := congrArg List.length hks
      rw [List.length_mergeSort] at this
      rw [this]
      unfold nats
      exact List.length_map ..
    have hvk : Own cInt 1 3 w11 (w9.heap.size + 1) vk (nats (keyList s D)) := by
      rw [hks, hkl] at hrow
      unfold Own
      have e1 : (nats (keyList s D)).length = (keyList s D).length := by unfold nats; exact List.length_map ..
      have e2 : (nats (keyList s D)).flatMap cInt = (nats (keyList s D)).map encZ := by
        induction nats (keyList s D) with
        | nil => rfl
        | cons y r ih => simp [cInt, ih]
      rw [e1, e2]
      rw [World.size_alloc] at hrow
      exact hrow
    have hb911 : Below w9.heap.size w9 w11 := ((Below.refl _ w9).alloc (Nat.le_refl _) _).trans (hb11.mono (by simp))
    obtain ⟨Ak, ck, hvk2⟩ := hvk.isSlice
    have hnl : (nats (keyList s D)).length = (keyList s D).length := by unfold nats; exact List.length_map ..
    rw [hnl] at hvk2
    subst hvk2
    have hvk' := Lib.hid hvk
    obtain ⟨ksT, hksT⟩ : ∃ ksT : Nat → Prop, ksT = fun q => q = bx ∨ ∃ o, o < V9.lines.length ∧ (V9.line o).ownBlock = some q := ⟨_, rfl⟩
    have hkT := Lib.hid (show ∀ q, ksT q → base ≤ q ∧ q < w9.heap.size ∧ q ≠ mb from fun q hq => by
      rw [hksT] at hq
      rcases hq with rfl | ⟨o, ho, hq⟩
      · exact ⟨hbx, lb9, fun h => ownsMap_ne hown9'.out hx9h.out.box h.symm⟩
      · have hsz := (hx9h.out.own.line o (by rw [← hx9h.out.own.llen]; exact ho)).size q hq
        refine ⟨hsz.1, hsz.2, fun h => ?_⟩
        obtain ⟨cur, hcb⟩ := (hx9h.out.own.line o (by rw [← hx9h.out.own.llen]; exact ho)).block hq
        obtain ⟨o', ho1, ho2⟩ := ownsMap_obj hown9'.out
        rw [← h, hcb] at ho1
        injection ho1 with ho1
        subst ho1
        cases ho2)
    have h011 := h09.trans (hb911.mono h09.size)
    have hx11 := Lib.hid (show Bx w11 base bx 95 (cutR i j ov9 (.map (some mb))) V9 (keyGo p s i j n D 0) from hx9h.out.below hb911)
    have hown11 := Lib.hid (hown9'.out.kept (grown_of_below (row := none) hb911) (by simp))
    have hKl : (keyList s D).length ≤ 12 := by
      unfold keyList
      refine Nat.le_trans (List.length_filter_le _ _) ?_
      rw [List.length_range]
      have := hoL.out
      omega
    have hle9 : base ≤ w9.heap.size := by omega
    have h9s := hb911.size
    clear hks hkl hvk hrow hperm hnl z9 hb11 hx9h hown9' h09 hb911 hD72
    generalize w9.heap.size = z9 at hvk' hkT lb9 hle9 h9s ⊢
    go_wp2_with fail
    have hmp2 := hmp
    go_loopw [104] (fun q' wr => ∃ (q : Nat) (V' : SV), q ≤ (keyList s D).length ∧ q' = .int .i64 q ∧ V' = { V9 with holds := V'.holds } ∧ Bx wr base bx 95 (cutR i j ov9 (.map (some mb))) V' (keyGo p s i j n D q) ∧ Step ksT w11 wr) (fun q' _ => (keyList s D).length - (RowKit.intOf q').toNat)
    case atStart => exact ⟨0, V9, Nat.zero_le _, rfl, rfl, hx11.out, Step.refl _ _⟩
    case round =>
      obtain ⟨q, V', hq, rfl, hV', hx, hst⟩ := hrel
      have hV2 := Lib.hid hV'
      have hst' := Lib.hid hst
      have hx' := Lib.hid hx
      have h0r := h011.trans (hst.below (B := W0.heap.size) (fun k hk => by have := (hkT.out k hk).1; omega) h011.size)
      have hBr := hb0.trans (h0r.mono hb0.size)
      clear hV' hst hx
      by_cases hq1 : q < (keyList s D).length
      · have hqi : (q : Int) < ((keyList s D).length : Int) := by omega
        obtain ⟨gk, ck', curk, ek, _, _, rk⟩ := OwnSt.intAtOwn (hvk'.out.step hst'.out (fun k hk hh => by have := (hvk'.out.size k hk).1; have := (hkT.out k hh).2.1; omega)) (g := q) (by unfold nats; rw [List.length_map]; exact hq1)
        rw [nats_at hq1] at rk
        injection ek with ek ek2 ek3
        clear ek2 ek3
        subst ek
        obtain ⟨kq, hkq⟩ : ∃ kq, (keyList s D)[q] = kq := ⟨_, rfl⟩
        have hkm := key_mem hq1
        have hmay := Lib.hid (key_may hc'.out hcs.out hmp.out h1'.out h2'.out hq1)
        have hsucc := Lib.hid (keyGo_succ (p := p) (i := i) (j := j) (n := n) hq1)
        rw [hkq] at rk hkm hmay hsucc
        have hkv := Lib.hid (fun z => key_val hmp.out h1'.out hkm.1 z)
        have hoL' := hoL.out
        have hkq12 : kq < 12 := by omega
        have hkqh := Lib.hid hkq
        clear hkq
        go_wp2_with fail
        have z10 := hx'.out.box.cell (j := 10) rfl
        have lbr := hx'.out.lt
        have hownr := Lib.hid (ownsMap_step hown11.out hst'.out (fun hh => (hkT.out mb hh).2.2 rfl))
        have hkey : keyOf Tryz.prog 3 (.int .i64 (kq : Int)) = some (keyL (kq : Int)) := keyInt (by omega)
        obtain ⟨nv, hnv⟩ : ∃ nv : Int, cutN s i j (over s i j n) ((kq / 3 : Nat) : Int) ((kq % 3 : Nat) : Int) = nv := ⟨_, rfl⟩
        rw [hnv] at hkv hmay hsucc
        have hlook := Lib.hid (show ∀ w', Below wr.heap.size wr w' → (Instr.lookup 93 (.map (some mb)) (.int .i64 (kq : Int)) false).run Tryz.prog w' = .ok (.int .i64 nv) w' from fun w' hb => by
          obtain ⟨c, h1, h2, _⟩ := (hownr.out.kept (grown_of_below (row := none) hb) (by simp)).lookup_int lawInt Tryz.underlying93 Tryz.underlying3 (zeroInt w') hkey
          rw [hkv.out] at h2
          injection h2 with h2
          injection h2 with _ h2
          rw [← h2] at h1
          exact h1)
        have hd3 : IntKind.i64.wrap ((kq : Int) / 3) = (kq : Int) / 3 := IntWalk.i64_in _ (by omega)
        have hm3 : IntKind.i64.wrap ((kq : Int) % 3) = (kq : Int) % 3 := IntWalk.i64_in _ (by omega)
        have hm4 : (kq : Int).tmod 3 = (kq : Int) % 3 := Int.tmod_eq_emod_of_nonneg (by omega)
        have hnvh := Lib.hid hnv
        clear hnv hkv hkey rk
        refine wp_region_ops 15 [fun gq _ => gq 108 = .agg #[.slice Ab p.bins.length cb, .slice As p.sizes.length cs], fun gq _ => gq 109 = .pointer (some ⟨bx, 0, none⟩), fun gq _ => gq 110 = .pointer (some ⟨bx, 0, none⟩), fun gq _ => gq 111 = .pointer (some ⟨bx, 0, none⟩), fun gq _ => gq 112 = .int .i64 kq, fun gq _ => gq 113 = .int .i64 ((kq : Int) / 3), fun gq _ => gq 114 = .int .i64 kq, fun gq _ => gq 115 = .int .i64 ((kq : Int) % 3), fun gq _ => gq 116 = .pointer (some ⟨bx, 0, none⟩), fun gq _ => gq 117 = .pointer (some ⟨bx, 0, none⟩), fun gq _ => gq 118 = .pointer (some ⟨bx, 10, none⟩), fun gq _ => gq 119 = .map (some mb), fun gq _ => gq 120 = .int .i64 kq, fun gq _ => gq 121 = .int .i64 nv, fun gq _ => gq 122 = .int .i64 i] (by kernel_rfl) (by kernel_rfl) rfl (by kernel_rfl) ?_ (fun f W5 hb5 hR => ?_)
        simp only [List.take_succ_cons, List.take_zero]
        refine OpsOK.cons (OpOK.val rfl rfl (fun gq w' hb ho hd => ?_)) ?_
        · have e5 := ho 5 rfl
          obtain ⟨⟨y0, y1⟩, x0, x1, x2, x3, x4, x5, x6, hbz0, hbz1⟩ := hK.out w' (h0r.trans (hb.mono h0r.size))
          go_simp
        refine OpsOK.cons (OpOK.val rfl rfl (fun gq w' hb ho hd => ?_)) ?_
        · have e14 := ho 14 rfl
          go_simp
        refine OpsOK.cons (OpOK.val rfl rfl (fun gq w' hb ho hd => ?_)) ?_
        · have e109 : gq 109 = .pointer (some ⟨bx, 0, none⟩) := hd ⟨1, .data⟩ (by simp) rfl (by decide)
          go_simp
        refine OpsOK.cons (OpOK.val rfl rfl (fun gq w' hb ho hd => ?_)) ?_
        · have e110 : gq 110 = .pointer (some ⟨bx, 0, none⟩) := hd ⟨2, .data⟩ (by simp) rfl (by decide)
          go_simp
        refine OpsOK.cons (OpOK.val rfl rfl (fun gq w' hb ho hd => ?_)) ?_
        · have e16 := ho 16 rfl
          go_simp
        refine OpsOK.cons (OpOK.val rfl rfl (fun gq w' hb ho hd => ?_)) ?_
        · have e112 : gq 112 = .int .i64 kq := hd ⟨4, .data⟩ (by simp) rfl (by decide)
          go_simp
        refine OpsOK.cons (OpOK.val rfl rfl (fun gq w' hb ho hd => ?_)) ?_
        · have e16 := ho 16 rfl
          go_simp
        refine OpsOK.cons (OpOK.val rfl rfl (fun gq w' hb ho hd => ?_)) ?_
        · have e114 : gq 114 = .int .i64 kq := hd ⟨6, .data⟩ (by simp) rfl (by decide)
          go_simp
        refine OpsOK.cons (OpOK.val rfl rfl (fun gq w' hb ho hd => ?_)) ?_
        · have e14 := ho 14 rfl
          go_simp
        refine OpsOK.cons (OpOK.val rfl rfl (fun gq w' hb ho hd => ?_)) ?_
        · have e116 : gq 116 = .pointer (some ⟨bx, 0, none⟩) := hd ⟨8, .data⟩ (by simp) rfl (by decide)
          go_simp
        refine OpsOK.cons (OpOK.val rfl rfl (fun gq w' hb ho hd => ?_)) ?_
        · have e117 : gq 117 = .pointer (some ⟨bx, 0, none⟩) := hd ⟨9, .data⟩ (by simp) rfl (by decide)
          go_simp
        refine OpsOK.cons (OpOK.val rfl rfl (fun gq w' hb ho hd => ?_)) ?_
        · have e118 : gq 118 = .pointer (some ⟨bx, 10, none⟩) := hd ⟨10, .data⟩ (by simp) rfl (by decide)
          have x1 := (hb.cell (p := ⟨bx, 10, none⟩) lbr).trans z10
          go_simp
        refine OpsOK.cons (OpOK.val rfl rfl (fun gq w' hb ho hd => ?_)) ?_
        · have e16 := ho 16 rfl
          go_simp
        refine OpsOK.cons (OpOK.val rfl rfl (fun gq w' hb ho hd => ?_)) ?_
        · have e119 : gq 119 = .map (some mb) := hd ⟨11, .data⟩ (by simp) rfl (by decide)
          have e120 : gq 120 = .int .i64 kq := hd ⟨12, .data⟩ (by simp) rfl (by decide)
          have e3 := hlook.out w' hb
          simp only [execOp, evL_tmp, e119, e120, Sem.run_bind, e3, Result.andThen, Sem.run_pure]
        refine OpsOK.cons (OpOK.val rfl rfl (fun gq w' hb ho hd => ?_)) ?_
        · have e2 := ho 2 rfl
          go_simp
        exact OpsOK.nil
        obtain ⟨r108, r109, r110, r111, r112, r113, r114, r115, r116, r117, r118, r119, r120, r121, r122, _⟩ := hR
        simp only [fillA, fillT, List.take_succ_cons, List.take_zero, List.drop_succ_cons, List.drop_zero, List.filterMap_cons, List.filterMap_nil, List.foldl_cons, List.foldl_nil, List.setIfInBounds_toArray, List.set_cons_zero, List.set_cons_succ, r108, r109, r110, r111, r112, r113, r114, r115, r116, r117, r118, r119, r120, r121, r122]
        clear r108 r109 r110 r111 r112 r113 r114 r115 r116 r117 r118 r119 r120 r121 r122
        have hq3 : (kq : Int) / 3 = ((kq / 3 : Nat) : Int) := by omega
        have hr3 : (kq : Int) % 3 = ((kq % 3 : Nat) : Int) := by omega
        rw [hq3, hr3]
        have h05 := h0r.trans (hb5.mono h0r.size)
        have hB5 := hb0.trans (h05.mono hb0.size)
        have hx5 := Lib.hid (hx'.out.below hb5)
        clear hq3 hr3 hd3 hm3 hm4 z10
        go_wp2_with fail
        refine (alHold W5 _ p _ (kq / 3) (kq % 3) nv i (hP'.out _ hB5) hmay.out.1 hmay.out.2 hx5.out (by have := hst'.out.size; have := hb5.size; omega)).mono ?_
        rintro e w6 ⟨rfl, V6, hV6, hx6, hst6⟩
        have hst6' : Step ksT wr w6 := (Step.of_below hb5).trans (hst6.mono fun k hk => by
          rw [hksT]
          rcases hk with rfl | hk
          · exact .inl rfl
          · refine .inr ⟨kq / 3, ?_, by rw [hV2.out] at hk; exact hk⟩
            have := hx'.out.own.llen
            rw [hV2.out] at this
            rw [this]
            exact hmay.out.2.ho)
        go_wp2_with fail
        go_roundw
        case rel => exact ⟨q + 1, V6, by omega, by go_num, by rw [hV6, hV2.out], by rw [hsucc.out]; exact hx6, hst'.out.trans hst6'⟩
        case measure => simp [RowKit.intOf]; omega
      · obtain rfl : q = (keyList s D).length := by omega
        have hall := Lib.hid (keyGo_all hc'.out hcs.out hmp.out h1'.out h2'.out)
        have hbx9 := hR.out _ h0r
        obtain ⟨b0, b1, b2, b3, b4, b5, b6⟩ := hx'.out.cells
        have hone9 := hx'.out.own.one
        go_wp2_with (refine wpList_store_state rfl (.tmp 10) (.tmp 128) rfl rfl (w.heap.size + 1 + 1) nilSV V' hbx9 rfl rfl hone9 (fun w9 hbox9 hg9 => ?_))
        have hO9 := hx'.out.own.keptBy hg9 hbx9 (by decide) (by decide) (by decide) (by decide) (by decide) (by decide)
        obtain ⟨p0, p1, p2, p3, p4, p5, p6⟩ := BoxAt.cells hbox9
        have hfin9 : Below w.heap.size w w9 := Below.grown hBr hg9 (Below.size hBr) (fun k hk => by injection hk with hk; omega)
        clear b0 b1 b2 b3 b4 b5 b6
        go_wp2_with fail
        exact bodyPost_ret (v := .tuple #[SV.val V', .int .i64 0]) (by simp [results, Tryz.results20, go_sem, SV.val, p0, p1, p2, p3, p4, p5, p6]) rfl (actOk hfin.out ((hall.out ▸ hO9).from_ hle) hfin9)
  · have hne : (checkState p s != 0) = true := by simpa using hc
    have hfin := Lib.hid (count_bad (b := b) (g := g) (n := n) hc)
    clear hc
    have hbx9 := hR.out _ h1
    go_wp2_with (refine wpList_store_state rfl (.tmp 10) (.tmp 22) rfl rfl (w.heap.size + 1 + 1) nilSV nilSV hbx9 rfl rfl rfl (fun w9 hbox9 hg9 => ?_))
    obtain ⟨p0, p1, p2, p3, p4, p5, p6⟩ := BoxAt.cells hbox9
    have hfin9 : Below w.heap.size w w9 := Below.grown hB1 hg9 (Below.size hB1) (fun k hk => by injection hk with hk; omega)
    go_wp2_with fail
    exact bodyPost_ret (v := .tuple #[nilSV.val, .int .i64 (checkState p s)]) (by simp [results, Tryz.results20, go_sem, SV.val, p0, p1, p2, p3, p4, p5, p6]) rfl (actErr hfin.out hfin9)
end Wh
