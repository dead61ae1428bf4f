/- Texts of the claim, joined: AllocB, RelB. -/
import Derived.StillTailTactics
import Derived.Test.YtijilfghfahgjaaQ20
import Derived.Test.YtijilfghfahgjaaQ22
import Derived.Test.YtijilfghfahgjaaQ06
namespace Wh
open Go Go.RowKit Go.Shelf Go.Proofs
attribute [local go_sem] run_indexAt_letter evL_tmp evL_const evL_func

theorem boxesOwn {w : World} {base : Nat} {V : SV} {s : State} (p : Plan) (Ab : Option Addr) (cb : Nat) (As : Option Addr) (cs : Nat) (ho : OwnSt w base V s) :
    ∃ W0 : World, ((w.alloc (.cells #[.slice Ab p.bins.length cb, .slice As p.sizes.length cs] 25)).alloc (.cells #[V.on, V.orders, V.holds, V.moves, V.inn, V.out, V.fixed] 31)).alloc (.cells #[.slice none 0 0, .slice none 0 0, .slice none 0 0, .slice none 0 0, .slice none 0 0, .slice none 0 0, .slice none 0 0] 31) = W0 ∧ Below w.heap.size w W0 ∧
      W0.heap.size = w.heap.size + 1 + 1 + 1 ∧ Blk W0 w.heap.size 25 [.slice Ab p.bins.length cb, .slice As p.sizes.length cs] ∧ Bx W0 base (w.heap.size + 1) 31 [] V s ∧ BoxAt W0 (w.heap.size + 1 + 1) nilSV := by
  have hb1 : Below w.heap.size w (w.alloc (.cells #[.slice Ab p.bins.length cb, .slice As p.sizes.length cs] 25)) := (Below.refl _ _).alloc (Nat.le_refl _) _
  have h1 : Blk (w.alloc (.cells #[.slice Ab p.bins.length cb, .slice As p.sizes.length cs] 25)) w.heap.size 25 [.slice Ab p.bins.length cb, .slice As p.sizes.length cs] := Blk.new _ _ _
  have h2 := Blk.new (w.alloc (.cells #[.slice Ab p.bins.length cb, .slice As p.sizes.length cs] 25)) 31 #[V.on, V.orders, V.holds, V.moves, V.inn, V.out, V.fixed]
  rw [World.size_alloc] at h2
  have h3 := Blk.new ((w.alloc (.cells #[.slice Ab p.bins.length cb, .slice As p.sizes.length cs] 25)).alloc (.cells #[V.on, V.orders, V.holds, V.moves, V.inn, V.out, V.fixed] 31)) 31 #[.slice none 0 0, .slice none 0 0, .slice none 0 0, .slice none 0 0, .slice none 0 0, .slice none 0 0, .slice none 0 0]
  rw [World.size_alloc, World.size_alloc] at h3
  refine ⟨_, rfl, (hb1.alloc (by simp) _).alloc (by simp; omega) _, by simp, (h1.alloc _).alloc _, Bx.of (h2.alloc _) (((ho.below hb1).alloc _).alloc _), h3⟩

/-- What the reference's holding does. -/
def TakePost (p : Plan) (s : State) (o k : Nat) (n but : Int) (w : World) (base : Nat) (V : SV) (e : Ending) (w' : World) : Prop :=
  ∃ V', V' = { V with holds := V'.holds } ∧ e = .returned (.tuple #[V'.val, .int .i64 (takeS p s o k n but).2]) ∧ OwnSt w' base V' (takeS p s o k n but).1 ∧ Step (fun j => (V.line o).ownBlock = some j) w w'

set_option maxHeartbeats 8000000 in
set_option maxRecDepth 100000 in
theorem rTake (w : World) (v : Value) (p : Plan) (s : State) (o k : Nat) (n but : Int) {base : Nat} {V : SV} (hp : PlanV w w.heap.size v p) (hr : Right p s) (hm : May s o k n) (ho : OwnSt w base V s) (hbase : base ≤ w.heap.size) :
    Calls Try.prog 63 #[v, V.val, .int .i64 o, .int .i64 k, .int .i64 n, .int .i64 but] w (TakePost p s o k n but w base V) := by
  obtain ⟨Ab, cb, As, cs, rfl, hP', hBn, hSz, hlb, hls⟩ := openPl hp
  change Calls Try.prog 63 #[.agg #[.slice Ab p.bins.length cb, .slice As p.sizes.length cs], .agg #[V.on, V.orders, V.holds, V.moves, V.inn, V.out, V.fixed], .int .i64 o, .int .i64 k, .int .i64 n, .int .i64 but] w _
  obtain ⟨gl, cl, curl, e1, hgl, hblk, _⟩ := ho.lineAt hm.ho hm.hk
  have hll := hblk.lt
  go_enter Try.func63, Try.ntmps63
  go_wp2_with fail
  obtain ⟨W0, hW0, hb0, hsE, hpl, hB0, hres⟩ := boxesOwn p Ab cb As cs ho
  rw [hW0]
  clear hW0 hblk
  have y0 := hpl.cell (j := 0) rfl
  have y1 := hpl.cell (j := 1) rfl
  go_wp2_with fail
  refine (rWayOf _ _ p (hP'.out _ hb0) (by have := hr.sane.counts; omega)).mono ?_
  rintro e W1 ⟨uw, rfl, hway, h1⟩
  obtain ⟨Aw, cw, rfl⟩ := hway.isSlice
  rw [nats_length] at hway ⊢
  have hB1 := Lib.hid (hB0.below h1)
  obtain ⟨hgl1, f0, _, _, _⟩ := hB1.out.own.lineCells hm.ho hm.hk e1
  obtain ⟨go, co, curo, eo, hgo, hblko, z0, z1⟩ := hB1.out.own.orderAt hm.ho
  obtain ⟨c0, c1, c2, c3, c4, c5, c6⟩ := hB1.out.cells
  rw [eo] at c1
  rw [e1] at z1
  have hon : (o : Int) < (s.orders.length : Int) := by have := hm.ho; omega
  have hkn : (k : Int) < ((s.order o).lines.length : Int) := by have := hm.hk; omega
  have hm' := Lib.hid hm
  have hr' := Lib.hid hr
  have hway' := Lib.hid hway
  have hres1 := Lib.hid (hres.below h1 hres.lt)
  have hlw : (way p).length ≤ 6 := by rw [way_length]; exact hr.sane.counts.2.1
  have hl0 := h1.size
  clear hm hr hway hB0 y0 y1 hP' hBn hSz hpl hres
  go_wp2_with fail
  clear c0 c1 c2 c3 c4 c5 c6 z0 z1 f0 hgl1 eo hblko
  go_loopw [16, 4, 17, 18] (fun i n' _ _ wr => ∃ (j : Nat) (s' : State) (m : Int) (V' : SV), V' = { V with holds := V'.holds } ∧ j ≤ (way p).length ∧ i = .int .i64 j ∧ n' = .int .i64 m ∧ Right p s' ∧ May s' o k m ∧ takeGo o k but ((way p).drop j) s' m = takeS p s o k n but ∧
    Bx wr base (w.heap.size + 1) 31 [] V' s' ∧ (s'.line o k).good = (s.line o k).good ∧ Step (fun j => j = w.heap.size + 1 ∨ (V.line o).ownBlock = some j) W1 wr) (fun i _ _ _ _ => (way p).length - (intOf i).toNat)
  case atStart => exact ⟨0, s, n, V, rfl, Nat.zero_le _, rfl, rfl, hr'.out, hm'.out, rfl, hB1.out, rfl, Step.refl _ _⟩
  case round =>
    clear hr' hm' hB1
    obtain ⟨j, s', m, V', hsb, hj, rfl, rfl, hr, hm, htg, hBx, hgd, hst⟩ := hrel
    have hr' := Lib.hid hr
    have hm' := Lib.hid hm
    have htg' := Lib.hid htg
    have hBx' := Lib.hid hBx
    have hst' := Lib.hid hst
    have hgd' := Lib.hid hgd
    have hks := Lib.hid (show ∀ j, (j = w.heap.size + 1 ∨ (V.line o).ownBlock = some j) → j ≤ w.heap.size + 1 from fun j h => by
      rcases h with rfl | h
      · omega
      · rw [e1] at h
        change some gl = some j at h
        injection h with h
        omega)
    by_cases hlt : j < (way p).length
    · have hwb := way_bins p _ (List.getElem_mem hlt)
      have hwr := hway'.out.step hst (fun k hk hks' => absurd (hks.out k hks') (by have := (hway'.out.size k hk).1; omega))
      obtain ⟨gw, cw', curw, ew, hgw, hbw, zw⟩ := OwnSt.intAtOwn hwr (g := j) (by rw [nats_length]; exact hlt)
      rw [nats_at hlt] at zw
      obtain ⟨wb, hwbe⟩ : ∃ x, x = (way p)[j] := ⟨_, rfl⟩
      rw [← hwbe] at zw hwb
      have hwbe' := Lib.hid hwbe
      clear hwbe
      obtain rfl : Aw = some ⟨gw, 0, none⟩ := by injection ew
      clear ew
      have hgood := Lib.hid (hr.sane.line hm.ho hm.hk)
      have hjl : (j : Int) < ((way p).length : Int) := by omega
      have hr2 := Lib.hid hr.sane
      have hbb := Lib.hid (show 0 ≤ (wb : Int) ∧ (wb : Int) < p.bins.length by omega)
      have hsb' := Lib.hid hsb
      have hdr : takeGo o k but (wb :: (way p).drop (j + 1)) s' m = takeS p s o k n but := by rw [hwbe'.out, ← drop_at hlt]; exact htg'.out
      have hdr' := Lib.hid hdr
      obtain ⟨c0, c1, c2, c3, c4, c5, c6⟩ := hBx.cells
      clear hr hm htg hBx hst hwr hbw hsb hdr hgd
      by_cases hbut : (wb : Int) = but
      · have hq : ((wb : Int) == but) = true := by simpa using hbut
        have htg2 := Lib.hid (show takeGo o k but ((way p).drop (j + 1)) s' m = takeS p s o k n but by rw [← hdr'.out, takeGo_skip (.inl hbut)])
        clear hbut
        go_wp2_with fail
        go_roundw
        case rel => exact ⟨j + 1, s', m, V', hsb'.out, by omega, by go_num, rfl, hr'.out, hm'.out, htg2.out, hBx'.out, hgd'.out, hst'.out⟩
        case measure => simp [intOf]; omega
      · have hq : ((wb : Int) == but) = false := by simpa using hbut
        have hbut' := Lib.hid hbut
        clear hbut
        go_wp2_with fail
        clear c0 c1 c2 c3 c4 c5 c6 zw
        refine (rAvailOf _ _ p s' wb (s.line o k).good (hBx'.out.own.view hr2.out) hr2.out hbb.out (by rw [← hgd'.out]; exact hgood.out.1)).mono ?_
        rintro e W6 ⟨rfl, hb6⟩
        obtain ⟨mm, hmm⟩ : ∃ x, (if avail s' ↑wb (s.line o k).good < m then avail s' ↑wb (s.line o k).good else m) = x := ⟨_, rfl⟩
        have hmin : mm = min m (avail s' wb (s'.line o k).good) := by rw [← hmm, hgd'.out]; split <;> omega
        have hav := hm'.out.avail hr'.out hwb
        have hmb := hm'.out.back
        have hm0 := hm'.out.n0
        have hgb := hgood.out
        have hmr : mm ≤ m ∧ m ≤ 200 ∧ 0 ≤ mm ∧ mm ≤ avail s' wb (s'.line o k).good := by omega
        have hbr : 0 ≤ (s'.line o k).back ∧ (s'.line o k).back ≤ 200 := by omega
        have hst6 := Lib.hid (hst'.out.trans (.of_below hb6))
        have hBx6 := Lib.hid (hBx'.out.below hb6)
        have hmin' := Lib.hid hmin
        have hmr' := Lib.hid hmr
        clear hmin hav hmb hm0 hgb hmr
        by_cases hge : 1 ≤ mm
        · have hge0 : 0 < mm := by omega
          have hfit := Lib.hid (hm'.out.fits hwb hge hmr'.out.1 hmr'.out.2.2.2)
          have htg2 := Lib.hid (show takeGo o k but ((way p).drop (j + 1)) (hold1 s' o k wb mm) (m - mm) = takeS p s o k n but by rw [← hdr'.out, takeGo_one hbut'.out (by rw [← hmin'.out]; exact hge), ← hmin'.out])
          have hlen := ok_len72 hr2.out.holds
          have hble : base ≤ W6.heap.size := Nat.le_trans hbase (Nat.le_trans hb0.size (Nat.le_trans hl0 (Nat.le_trans hst'.out.size hb6.size)))
          have hkr := fits_kept hr'.out hfit.out
          have hw0 : IntKind.i64.wrap (keptAt s'.holds o k wb + mm) = keptAt s'.holds o k wb + mm := IntWalk.i64_in _ (by omega)
          go_wp2_with fail
          clear hmm
          refine wp_region_ops 15 [fun gq _ => gq 52 = .pointer (some ⟨w.heap.size + 1, 2, none⟩), fun gq _ => gq 53 = V'.holds, fun gq _ => gq 54 = .int .i64 o, fun gq _ => gq 55 = .int .i64 k, fun gq _ => gq 56 = .int .i64 wb, fun gq _ => gq 57 = .pointer (some ⟨w.heap.size + 1, 2, none⟩), fun gq _ => gq 58 = V'.holds, fun gq _ => gq 59 = .int .i64 o, fun gq _ => gq 60 = .int .i64 k, fun gq _ => gq 61 = .int .i64 wb, fun gq w' => (fun v w' => v = .int .i64 (keptAt s'.holds o k wb)) (gq 62) w', fun gq _ => gq 63 = .int .i64 mm, fun gq _ => gq 64 = .int .i64 (keptAt s'.holds o k wb + mm), fun gq w' => (fun v w' => Own cHold 4 63 w' W6.heap.size v (hold1 s' o k wb mm).holds) (gq 65) w', fun gq _ => gq 66 = .pointer (some ⟨w.heap.size + 1, 2, none⟩)] (by kernel_rfl) (by kernel_rfl) rfl (by kernel_rfl) ?_ (fun f w2 hb2 hR => ?_)
          simp only [List.take_succ_cons, List.take_zero]
          refine OpsOK.cons (OpOK.val rfl rfl (fun gq w' hb ho hd => ?_)) ?_
          · have e7 := ho 7 rfl
            go_simp
          refine OpsOK.cons (OpOK.val rfl rfl (fun gq w' hb ho hd => ?_)) ?_
          · have e52 : gq 52 = .pointer (some ⟨w.heap.size + 1, 2, none⟩) := hd ⟨0, .data⟩ (by simp) rfl (by decide)
            have x2 := (hBx6.out.below hb).cells.2.2.1
            go_simp
          refine OpsOK.cons (OpOK.val rfl rfl (fun gq w' hb ho hd => ?_)) ?_
          · have e2 := ho 2 rfl
            go_simp
          refine OpsOK.cons (OpOK.val rfl rfl (fun gq w' hb ho hd => ?_)) ?_
          · have e3 := ho 3 rfl
            go_simp
          refine OpsOK.cons (OpOK.val rfl rfl (fun gq w' hb ho hd => ?_)) ?_
          · have e17 := ho 17 rfl
            go_simp
          refine OpsOK.cons (OpOK.val rfl rfl (fun gq w' hb ho hd => ?_)) ?_
          · have e7 := ho 7 rfl
            go_simp
          refine OpsOK.cons (OpOK.val rfl rfl (fun gq w' hb ho hd => ?_)) ?_
          · have e57 : gq 57 = .pointer (some ⟨w.heap.size + 1, 2, none⟩) := hd ⟨5, .data⟩ (by simp) rfl (by decide)
            have x2 := (hBx6.out.below hb).cells.2.2.1
            go_simp
          refine OpsOK.cons (OpOK.val rfl rfl (fun gq w' hb ho hd => ?_)) ?_
          · have e2 := ho 2 rfl
            go_simp
          refine OpsOK.cons (OpOK.val rfl rfl (fun gq w' hb ho hd => ?_)) ?_
          · have e3 := ho 3 rfl
            go_simp
          refine OpsOK.cons (OpOK.val rfl rfl (fun gq w' hb ho hd => ?_)) ?_
          · have e17 := ho 17 rfl
            go_simp
          refine OpsOK.cons (OpOK.one (d := 62) (p := (fun v w' => v = .int .i64 (keptAt s'.holds o k wb))) rfl rfl (fun v w1 w2 h hb => h) (fun gq w' hb ho hd => ?_)) ?_
          · have e58 : gq 58 = V'.holds := hd ⟨6, .data⟩ (by simp) rfl (by decide)
            have e59 : gq 59 = .int .i64 o := hd ⟨7, .data⟩ (by simp) rfl (by decide)
            have e60 : gq 60 = .int .i64 k := hd ⟨8, .data⟩ (by simp) rfl (by decide)
            have e61 : gq 61 = .int .i64 wb := hd ⟨9, .data⟩ (by simp) rfl (by decide)
            have hs := (hBx6.out.below hb).own.holds.sl (by omega)
            unfold OpRel
            go_simp
            refine (rKeptAt w' _ s'.holds o k wb hs).mono ?_
            rintro e w2 ⟨rfl, rfl⟩
            exact ⟨_, rfl, rfl, Below.refl _ _⟩
          refine OpsOK.cons (OpOK.val rfl rfl (fun gq w' hb ho hd => ?_)) ?_
          · have e18 := ho 18 rfl
            go_simp
          refine OpsOK.cons (OpOK.val rfl rfl (fun gq w' hb ho hd => ?_)) ?_
          · have e62 : (gq 62) = .int .i64 (keptAt s'.holds o k wb) := hd ⟨10, .data⟩ (by simp) rfl (by decide)
            have e63 : gq 63 = .int .i64 mm := hd ⟨11, .data⟩ (by simp) rfl (by decide)
            go_simp
          refine OpsOK.cons (OpOK.one (d := 65) (p := (fun v w' => Own cHold 4 63 w' W6.heap.size v (hold1 s' o k wb mm).holds)) rfl rfl (fun v w1 w2 h hb => h.below hb) (fun gq w' hb ho hd => ?_)) ?_
          · have e53 : gq 53 = V'.holds := hd ⟨1, .data⟩ (by simp) rfl (by decide)
            have e54 : gq 54 = .int .i64 o := hd ⟨2, .data⟩ (by simp) rfl (by decide)
            have e55 : gq 55 = .int .i64 k := hd ⟨3, .data⟩ (by simp) rfl (by decide)
            have e56 : gq 56 = .int .i64 wb := hd ⟨4, .data⟩ (by simp) rfl (by decide)
            have e64 : gq 64 = .int .i64 (keptAt s'.holds o k wb + mm) := hd ⟨12, .data⟩ (by simp) rfl (by decide)
            have hs := (hBx6.out.below hb).own.holds.sl (by omega)
            unfold OpRel
            go_simp
            refine (rWith w' _ s'.holds o k wb _ hs hr2.out.holds (key_of hr2.out hm'.out.ho hm'.out.hk hwb)).mono ?_
            rintro e w2 ⟨u, rfl, hu, hb2⟩
            exact ⟨u, rfl, hu.from_ hb.size, hb2⟩
          refine OpsOK.cons (OpOK.val rfl rfl (fun gq w' hb ho hd => ?_)) ?_
          · have e7 := ho 7 rfl
            go_simp
          exact OpsOK.nil
          obtain ⟨r52, r53, r54, r55, r56, r57, r58, r59, r60, r61, r62, r63, r64, r65, r66, _⟩ := hR
          replace r62 : (f 62) = .int .i64 (keptAt s'.holds o k wb) := r62
          replace r65 : Own cHold 4 63 w2 W6.heap.size (f 65) (hold1 s' o k wb mm).holds := r65
          simp only [fillA, fillT, List.take_succ_cons, List.take_zero, List.drop_succ_cons, List.drop_zero, List.filterMap_cons, List.filterMap_nil, List.foldl_cons, List.foldl_nil, List.setIfInBounds_toArray, List.set_cons_zero, List.set_cons_succ, r52, r53, r54, r55, r56, r57, r58, r59, r60, r61, r62, r63, r64, r66]
          clear r52 r53 r54 r55 r56 r57 r58 r59 r60 r61 r62 r63 r64 r66
          obtain ⟨A7, c7, hv7⟩ := r65.isSlice
          rw [hv7] at r65
          simp only [hv7]
          have hBx7 := Lib.hid (hBx6.out.below hb2)
          have hu7 := Lib.hid (r65.from_ hble)
          clear r65 hv7
          refine wp_st_holds rfl (.tmp 66) (.tmp 65) rfl rfl A7 _ c7 _ hBx7.out rfl rfl hu7.out (fun w8 hBx8 hst8 => ?_)
          refine wpList_nil ?_
          have hv8 : V'.line o = .slice (some ⟨gl, 0, none⟩) (s.order o).lines.length cl := by rw [hsb'.out]; exact e1
          obtain ⟨hgll8, f0, f1, f2, f3⟩ := hBx8.own.lineCells (s := { s' with holds := (hold1 s' o k wb mm).holds }) hm'.out.ho hm'.out.hk hv8
          obtain ⟨go8, co8, curo8, eo8, hgo8, hblko8, z0, z1⟩ := hBx8.own.orderAt (s := { s' with holds := (hold1 s' o k wb mm).holds }) hm'.out.ho
          obtain ⟨c0, c1, c2, c3, c4, c5, c6⟩ := hBx8.cells
          rw [eo8] at c1
          have z1' : w8.cell? ⟨go8, o * 2 + 1, none⟩ = some (V'.line o) := z1
          rw [hv8] at z1'
          have hon8 : (o : Int) < (s'.orders.length : Int) := by have := hm'.out.ho; omega
          have hkn8 : (k : Int) < ((s.order o).lines.length : Int) := by omega
          have hBx8' := Lib.hid hBx8
          have hw1 : IntKind.i64.wrap ((s'.line o k).back - mm) = (s'.line o k).back - mm := IntWalk.i64_in _ (by omega)
          have hw2 : IntKind.i64.wrap (m - mm) = m - mm := IntWalk.i64_in _ (by have := hmr'.out; omega)
          have f3' : w8.cell? ⟨gl, k * 4 + 3, none⟩ = some (.int .i64 (s'.line o k).back) := f3
          have hv8' := Lib.hid hv8
          clear hBx8 f0 f1 f2 f3 z0 z1 c0 c2 c3 c4 c5 c6 eo8 hblko8 hv8 hw0
          go_wp2_with fail
          go_still_tail 21, (by kernel_rfl)
          change wpList _ _ _ _ _ w8.drew
          refine wp_st_line rfl (.tmp 87) (.tmp 85) rfl rfl (j := 3) (y := { s'.line o k with back := (s'.line o k).back - mm }) hBx8'.out.drew hm'.out.ho hm'.out.hk hv8'.out (by decide) rfl rfl rfl (fun w9 hBx9 hst9 => ?_)
          refine wpList_nil ?_
          have hBx9' := Lib.hid (show Bx w9 base (w.heap.size + 1) 31 [] { V' with holds := .slice A7 (hold1 s' o k wb mm).holds.length c7 } (hold1 s' o k wb mm) from hBx9)
          have hst9' := Lib.hid (((hst6.out.trans (.of_below hb2)).trans (hst8.mono fun _ h => .inl h)).trans ((Step.of_below (Below.refl _ _).drew).trans (hst9.mono fun q hq => .inr (by rw [hq, e1]; rfl))))
          have hgd9 := Lib.hid (show ((hold1 s' o k wb mm).line o k).good = (s.line o k).good by rw [(hold1_fixedLine hfit.out o k).1]; exact hgd'.out)
          clear f3' hBx9 hst9 hst8 c1 z1'
          go_wp2_with fail
          go_roundw
          case rel => exact ⟨j + 1, hold1 s' o k wb mm, m - mm, _, show _ = _ by rw [hsb'.out], by omega, by go_num, rfl, hold1_right hr'.out hfit.out, hm'.out.held (Held.one hr'.out hfit.out) hmr'.out.1, htg2.out, hBx9'.out, hgd9.out, hst9'.out⟩
          case measure => simp [intOf]; omega
        · have hle0 : ¬ 0 < mm := by omega
          have htg2 := Lib.hid (show takeGo o k but ((way p).drop (j + 1)) s' m = takeS p s o k n but by rw [← hdr'.out, takeGo_skip (.inr (by rw [← hmin'.out]; omega))])
          clear hge
          go_wp2_with fail
          clear hmm
          go_roundw
          case rel => exact ⟨j + 1, s', m, V', hsb'.out, by omega, by go_num, rfl, hr'.out, hm'.out, htg2.out, hBx6.out, hgd'.out, hst6.out⟩
          case measure => simp [intOf]; omega
    · obtain rfl : j = (way p).length := by omega
      have hfin := Lib.hid (show (s', m) = takeS p s o k n but by rw [← htg'.out, List.drop_length]; rfl)
      have hsb' := Lib.hid hsb
      obtain ⟨c0, c1, c2, c3, c4, c5, c6⟩ := hBx.cells
      have hres9 : BoxAt wr (w.heap.size + 1 + 1) nilSV := hst.blk hres1.out.blk (fun h => by have := hks.out _ h; omega)
      have hone := hBx.own.one
      clear hr hm htg hBx hst hsb
      go_wp2_with (refine wpList_store_state rfl (.tmp 12) (.tmp 91) rfl rfl (w.heap.size + 1 + 1) nilSV V' hres9 rfl rfl hone (fun w9 hbox9 hg9 => ?_))
      have hO9 := hBx'.out.own.keptBy hg9 hres9.blk (by decide) (by decide) (by decide) (by decide) (by decide) (by decide)
      obtain ⟨p0, p1, p2, p3, p4, p5, p6⟩ := hbox9.cells
      have hfin9 : Step (fun j => (V.line o).ownBlock = some j) w w9 :=
        ((Step.of_below (hb0.trans (h1.mono hb0.size))).trans' hst'.out (fun q hq h => h.resolve_left (by omega))).trans' (Step.of_grown (ks := fun q => q = w.heap.size + 1 + 1) hg9 (fun q hq => by injection hq with hq; exact hq.symm)) (fun q hq h => by omega)
      clear c0 c1 c2 c3 c4 c5 c6
      go_wp2_with fail
      exact bodyPost_ret (v := .tuple #[V'.val, .int .i64 m]) (by simp [results, Try.results63, go_sem, SV.val, p0, p1, p2, p3, p4, p5, p6]) rfl ⟨V', hsb'.out, by rw [← hfin.out], by rw [← hfin.out]; exact hO9, hfin9⟩
end Wh
namespace Wh
open Go Go.RowKit
section
variable {P : Program} {l : List Oper} {n : Nat} {R : Nat → (Nat → Value) → World → Prop} {Q : Exit → Act → World → Prop} {a : Act} {w : World}
/-- What is to be shown of one operation: the one that breaks J may use it. -/
def StepBrk (P : Program) (l : List Oper) (n : Nat) (R : Nat → (Nat → Value) → World → Prop) (Q : Exit → Act → World → Prop) (a : Act) (T J : World → Prop) (Eb : World → World → Prop) (brk i : Nat) (o : Oper) : Prop :=
  ∀ f w', T w' → (i = brk → J w') → Deps n R f w' o →
    o.wp P (fillA a (l.take n) f) w' (fun a' w'' => ∃ v, a' = (fillA a (l.take n) f).put o.dst v ∧ R i (updO f o.dst v) w'' ∧ ((i ≠ brk ∧ Below w'.heap.size w' w'') ∨ (i = brk ∧ Eb w' w''))) Q
theorem brk_run {T J : World → Prop} {Eb : World → World → Prop} {brk : Nat} (hT1 : ∀ w1 w2, T w1 → Below w1.heap.size w1 w2 → T w2) (hT2 : ∀ w1 w2, T w1 → Eb w1 w2 → T w2) (hJ : ∀ w1 w2, J w1 → Below w1.heap.size w1 w2 → J w2) (hle : n ≤ l.length) (hwait : ∀ listed, HeadInv .any l.toArray n listed → ∀ i, i < n → listed.getD i true = false → ∀ t, n ≤ t → t ∉ Region.ready .any l.toArray listed) (hseq : Region.seqB .any l.toArray (l.length - n) n (heads l.length n) = true)
    (hg : ∀ i o, i < n → l[i]? = some o → o.guard = none) (hnd : ((l.take n).filterMap (·.dst)).Nodup) (hback : ∀ i o, i < n → l[i]? = some o → ∀ e ∈ o.after, Region.binds .any e = true → e.on < i)
    (hst : ∀ i g w1 w2, R i g w1 → Below w1.heap.size w1 w2 → R i g w2) (hst2 : ∀ i g w1 w2, i ≠ brk → R i g w1 → Eb w1 w2 → R i g w2) (hsup : ∀ i g g' w, (∀ j o d, Anc l j i → l[j]? = some o → o.dst = some d → g d = g' d) → R i g w → R i g' w) (hsteps : ∀ i o, i < n → l[i]? = some o → StepBrk P l n R Q a T J Eb brk i o)
    (hend : ∀ f w', T w' → (∀ i, i < n → R i f w') → wpList P l.toArray Q (l.drop n) (fillA a (l.take n) f) w') :
    ∀ (k : Nat) (listed : Array Bool) (f : Nat → Value) (w' : World), HeadInv .any l.toArray n listed → unl listed n = k → T w' → (listed.getD brk false = false → J w') → (∀ i, i < n → listed.getD i false = true → R i f w') →
      wpAny P .any l.toArray Q (k + (l.length - n)) listed (fillA a (l.take n) f) w'
  | 0, listed, f, w', inv, hk, hb, _, hR => by
    have hsz : listed.size = l.length := by rw [inv.size]; simp
    have he : listed = heads l.length n := by
      apply Array.ext_getElem?
      intro i
      unfold heads
      rw [Array.getElem?_append]
      simp only [Array.size_replicate]
      by_cases hi : i < n
      · rw [if_pos hi]
        have h1 := unl_zero hk hi
        have h2 : i < listed.size := by omega
        simp [hi, h2, Array.getD] at h1 ⊢
        exact h1
      · rw [if_neg hi]
        by_cases hl : i < l.length
        · have h1 := inv.tail i (by omega) (by simpa using hl)
          have h2 : i < listed.size := by omega
          have h3 : i - n < l.length - n := by omega
          simp [h2, h3, Array.getD] at h1 ⊢
          exact h1
        · rw [Array.getElem?_eq_none (by omega), Array.getElem?_eq_none (by simp; omega)]
    have hd : l.length - n = (l.drop n).length := by simp
    rw [Nat.zero_add, hd]
    refine wpAny_of_seq (l.drop n) n listed _ w' (fun j => by simp [List.getElem?_drop]) (by rw [he, ← hd]; exact hseq) (hend f w' hb fun i hin => hR i hin ?_)
    have h1 := unl_zero hk hin
    have h2 : i < listed.size := by omega
    simp [h2, Array.getD] at h1 ⊢
    exact h1
  | k + 1, listed, f, w', inv, hk, hb, hJw, hR => by
    have hsz : listed.size = l.length := by rw [inv.size]; simp
    obtain ⟨i0, hi0, hu0⟩ := unl_pos (show 0 < unl listed n by omega)
    have hne : ∀ i, i < n → listed.getD i true = false → Region.ready .any l.toArray listed ≠ [] := by
      intro i
      induction i using Nat.strongRecOn with
      | _ i ih =>
        intro hin hu
        have hil : i < l.length := by omega
        by_cases hall : ∀ e ∈ (l[i]).after, Region.binds .any e = true → listed.getD e.on false = true
        · have : i ∈ Region.ready .any l.toArray listed := mem_ready.2 ⟨hu, l[i], by simp [hil], hall⟩
          intro h0
          rw [h0] at this
          cases this
        · simp only [Classical.not_forall] at hall
          obtain ⟨e, he, hbd, hno⟩ := hall
          have hlt := hback i l[i] hin (by simp [hil]) e he hbd
          exact ih e.on hlt (by omega) (getD_in (by omega) (by simpa using hno))
    rw [show k + 1 + (l.length - n) = (k + (l.length - n)) + 1 by omega]
    refine ⟨fun h0 => absurd h0 (hne i0 hi0 hu0), fun i hi => ?_⟩
    have hin : i < n := by
      rcases Nat.lt_or_ge i n with h | h
      · exact h
      · exact absurd hi (hwait listed inv i0 hi0 hu0 i h)
    obtain ⟨hu, o, ho, hall⟩ := mem_ready.1 hi
    have ho' : l[i]? = some o := by simpa using ho
    have hgd := hg i o hin ho'
    have h1 := hsteps i o hin ho' f w' hb (fun e => hJw (by rw [← e]; exact getD_both hu)) fun e he hbd hen => hR e.on hen (hall e he hbd)
    unfold wpOp
    simp only [ho]
    rw [if_pos (by simp [Region.wanted, hgd])]
    refine .inl (Oper.wp_mono ?_ h1)
    rintro a' w'' ⟨v, rfl, hv, hbw⟩
    have hcount : unl (listed.setIfInBounds i true) n = k := by
      have := unl_set hu n
      rw [if_pos hin] at this
      omega
    have hb2 : T w'' := by
      rcases hbw with ⟨_, hbw⟩ | ⟨_, hbw⟩
      · exact hT1 _ _ hb hbw
      · exact hT2 _ _ hb hbw
    have hJ2 : (listed.setIfInBounds i true).getD brk false = false → J w'' := fun h => by
      rcases hbw with ⟨hne, hbw⟩ | ⟨rfl, _⟩
      · rw [getD_set_ne false hne] at h
        exact hJ _ _ (hJw h) hbw
      · rw [getD_set_self false (lt_of_unl hu)] at h
        cases h
    have hanc : ∀ j k, Anc l j k → k < n → listed.getD k false = true → j < n ∧ listed.getD j false = true := by
      intro j k h
      induction h with
      | self => exact fun h1 h2 => ⟨h1, h2⟩
      | back ho he hbd hon _ ih =>
        intro h1 h2
        subst hon
        have := hback _ _ h1 ho _ he hbd
        exact ih (by omega) (inv.closed _ _ (by simpa using ho) h2 _ he hbd)
    have hfin : (fillA a (l.take n) f).put o.dst v = fillA a (l.take n) (updO f o.dst v) := by
      cases hdst : o.dst with
      | none => rfl
      | some d0 =>
        unfold fillA Act.put updO
        simp only
        rw [fillT_put (dst_mem ho' hin hdst)]
    rw [hfin]
    refine brk_run hT1 hT2 hJ hle hwait hseq hg hnd hback hst hst2 hsup hsteps hend k _ (updO f o.dst v) w'' (inv.set hi hin) hcount hb2 hJ2 fun j hjn hl => ?_
    by_cases hij : i = j
    · subst hij
      exact hv
    · rw [getD_set_ne false hij] at hl
      refine hsup j f _ _ (fun j' oj d haj hoj hd => ?_) (by
        rcases hbw with ⟨_, hbw⟩ | ⟨rfl, hbw⟩
        · exact hst _ _ _ _ (hR j hjn hl) hbw
        · exact hst2 _ _ _ _ (fun e => hij e.symm) (hR j hjn hl) hbw)
      obtain ⟨hjn', hlj'⟩ := hanc _ _ haj hjn hl
      cases hdst : o.dst with
      | none => rfl
      | some d0 =>
        have hne : i ≠ j' := fun e => by
          subst e
          rw [getD_both hu] at hlj'
          cases hlj'
        have hdd := dst_ne hnd ho' hin hdst hoj hjn' hd hne
        unfold updO upd
        simp only
        rw [if_neg (fun e => hdd e.symm)]

theorem wp_region_brk (n : Nat) (T J : World → Prop) (Eb : World → World → Prop) (brk : Nat) (R : Nat → (Nat → Value) → World → Prop) {id : Nat} (hm : P.follows .mixedOrders = true) (hB : relB l n = true) (hT1 : ∀ w1 w2, T w1 → Below w1.heap.size w1 w2 → T w2) (hT2 : ∀ w1 w2, T w1 → Eb w1 w2 → T w2) (hJ : ∀ w1 w2, J w1 → Below w1.heap.size w1 w2 → J w2) (hT0 : T w.drew) (hJ0 : J w.drew)
    (hst : ∀ i g w1 w2, R i g w1 → Below w1.heap.size w1 w2 → R i g w2) (hst2 : ∀ i g w1 w2, i ≠ brk → R i g w1 → Eb w1 w2 → R i g w2)
    (hsup : ∀ i g g' w, (∀ j o d, Anc l j i → l[j]? = some o → o.dst = some d → g d = g' d) → R i g w → R i g' w) (hsteps : ∀ i o, i < n → l[i]? = some o → StepBrk P l n R Q a T J Eb brk i o)
    (hend : ∀ f w', T w' → (∀ i, i < n → R i f w') → wpList P l.toArray Q (l.drop n) (fillA a (l.take n) f) w') : (Code.region id l.toArray true).wp P Q a w := by
  simp only [relB, Bool.and_eq_true, Bool.or_eq_true, decide_eq_true_eq, List.all_eq_true] at hB
  obtain ⟨⟨⟨⟨hw, hseq⟩, hg⟩, hnd⟩, hback⟩ := hB
  have hle : n ≤ l.length := by rcases hw with h | h <;> omega
  have hat : ∀ i o, i < n → l[i]? = some o → o ∈ l.take n := fun i o hin hi => by
    rw [List.mem_iff_getElem?]
    exact ⟨i, by rw [List.getElem?_take]; simp [hin, hi]⟩
  refine wp_region_any hm ?_
  have H := brk_run (P := P) (Q := Q) (a := a) hT1 hT2 hJ hle ?_ hseq (fun i o hin hi => by simpa using hg o (hat i o hin hi)) hnd ?_ hst hst2 hsup hsteps hend n (Array.replicate l.toArray.size false) (fun d => a.tmps.getD d undef) w.drew
    ⟨by simp, fun j oj _ hl => (by rw [getD_replicate_false] at hl; cases hl), fun t _ ht => getD_in (by simpa using ht) (getD_replicate_false _ _)⟩ ?_ hT0 (fun _ => hJ0) (fun i _ hl => by rw [getD_replicate_false] at hl; cases hl)
  · have e : fillA a (l.take n) (fun d => a.tmps.getD d undef) = a := by
      unfold fillA
      rw [fillT_self]
    rw [e] at H
    have hs : n + (l.length - n) = l.toArray.size := by simp; omega
    rw [hs] at H
    exact H
  · intro listed inv i hin hu t ht hr
    rcases hw with h | ⟨⟨h1, h2⟩, h3⟩
    · obtain ⟨_, o, ho, _⟩ := mem_ready.1 hr
      have := (Array.getElem?_eq_some_iff.1 ho).1
      simp at this
      omega
    · exact tail_waits h2 h3 (by simpa using h1) inv (n - i) i rfl hin hu t ht hr
  · intro i o hin hi e he hbd
    have := hback i (List.mem_range.2 hin)
    rw [hi] at this
    simp only [Option.map_some, Option.getD_some, Array.all_eq_true_iff_forall_mem, Bool.or_eq_true, Bool.not_eq_true', decide_eq_true_eq] at this
    rcases this e he with h | h
    · rw [h] at hbd; cases hbd
    · exact h
  · have key : ∀ m, m ≤ l.length → unl (Array.replicate l.toArray.size false) m = m := by
      intro m
      induction m with
      | zero => intro _; rfl
      | succ m ih =>
        intro hm
        have := ih (by omega)
        unfold unl at this ⊢
        have hml : m < l.length := by omega
        rw [List.range_succ, List.countP_append, this]
        simp [hml]
    exact key n hle
theorem OpRel.mono {P : Program} {o : Oper} {ev : Operand → Value} {w : World} {K K' : Value → World → Prop} (hk : ∀ v w, K v w → K' v w) (h : OpRel P o ev w K) : OpRel P o ev w K' := by
  unfold OpRel at *
  generalize (execOp ev o).run P w = r at *
  cases r with
  | ok n w' =>
    cases n <;> simp only at h ⊢
    case value v => exact hk _ _ h
    case skip => exact hk _ _ h
    case enter f args => exact h.mono fun e w'' ⟨v, he, h⟩ => ⟨v, he, hk _ _ h⟩
  | halt x w' => exact h
theorem StepBrk.of {T J : World → Prop} {Eb : World → World → Prop} {brk : Nat} {i : Nat} {o : Oper} (hi : i < n) (hB : relB l n = true) (hsz : ((l.take n).filterMap (·.dst)).all (fun d => decide (d < a.tmps.size)) = true)
    (hsup : ∀ i g g' w, (∀ j o d, Anc l j i → l[j]? = some o → o.dst = some d → g d = g' d) → R i g w → R i g' w)
    (h : ∀ (g : Nat → Value) w', T w' → (i = brk → J w') → (∀ d, ((l.take n).filterMap (·.dst)).contains d = false → g d = a.tmps.getD d undef) → Deps n R g w' o → OpRel P o (evL g) w' fun v w'' => R i (updO g o.dst v) w'' ∧ ((i ≠ brk ∧ Below w'.heap.size w' w'') ∨ (i = brk ∧ Eb w' w''))) :
    StepBrk P l n R Q a T J Eb brk i o := by
  simp only [relB, Bool.and_eq_true, Bool.or_eq_true, decide_eq_true_eq, List.all_eq_true] at hB
  obtain ⟨_, hback⟩ := hB
  have hback' : ∀ k oe, k < n → l[k]? = some oe → ∀ e ∈ oe.after, Region.binds .any e = true → e.on < k := fun k oe hk hoe e he hbd => by
    have := hback k (List.mem_range.2 hk)
    rw [hoe] at this
    simp only [Option.map_some, Option.getD_some, Array.all_eq_true_iff_forall_mem, Bool.or_eq_true, Bool.not_eq_true', decide_eq_true_eq] at this
    rcases this e he with h | h
    · rw [h] at hbd; cases hbd
    · exact h
  have hanc : ∀ j k, Anc l j k → k < n → j < n := by
    intro j k h
    induction h with
    | self => exact id
    | back ho he hbd hon _ ih =>
      intro h1
      subst hon
      have := hback' _ _ h1 ho _ he hbd
      exact ih (by omega)
  have hsz' : ∀ d ∈ (l.take n).filterMap (·.dst), d < a.tmps.size := fun d hd => by
    have := List.all_eq_true.1 hsz d hd
    simpa using this
  intro f w' hb hj hd
  have hg : ∀ d ∈ (l.take n).filterMap (·.dst), (fillA a (l.take n) f).tmps.getD d undef = f d := fun d hd => by
    have h1 := fillT_get ((l.take n).filterMap (·.dst)) f a.tmps d
    rw [if_pos (hsz' d hd), if_pos hd] at h1
    unfold fillA
    simp only [Array.getD_eq_getD_getElem?, h1, Option.getD_some]
  have ho : ∀ d, ((l.take n).filterMap (·.dst)).contains d = false → (fillA a (l.take n) f).tmps.getD d undef = a.tmps.getD d undef := fun d hd => by
    have h1 := fillT_get ((l.take n).filterMap (·.dst)) f a.tmps d
    have h2 : d ∉ (l.take n).filterMap (·.dst) := by simpa using hd
    rw [if_neg h2] at h1
    unfold fillA
    simp only [Array.getD_eq_getD_getElem?, h1]
    by_cases hl : d < a.tmps.size
    · rw [if_pos hl]
    · rw [if_neg hl, Array.getElem?_eq_none (Nat.le_of_not_lt hl)]
  have key := h (fun d => (fillA a (l.take n) f).tmps.getD d undef) w' hb hj ho (fun e he hbd hen => hsup e.on f _ _ (fun j oj d haj hoj hdj => (hg d (dst_mem hoj (hanc _ _ haj hen) hdj)).symm) (hd e he hbd hen))
  rw [← evL_eval] at key
  refine Oper.wp_mono ?_ key.wp
  rintro a' w'' ⟨v, rfl, hr, hbw⟩
  refine ⟨v, rfl, hsup i _ _ _ (fun j oj d haj hoj hdj => ?_) hr, hbw⟩
  have hjn := hanc _ _ haj hi
  have hmem := dst_mem hoj hjn hdj
  cases hdst : o.dst with
  | none => exact hg d hmem
  | some d0 =>
    unfold updO upd
    simp only
    split
    · rfl
    · exact hg d hmem

/-- One operation: what it says stays, hangs on what came before it alone, and comes. -/
def OpBrk (P : Program) (l : List Oper) (n : Nat) (Rs : List RelP) (a : Act) (T J : World → Prop) (Eb : World → World → Prop) (brk i : Nat) (o : Oper) (p : RelP) : Prop :=
  (∀ g w1 w2, p g w1 → Below w1.heap.size w1 w2 → p g w2) ∧ (i ≠ brk → ∀ g w1 w2, p g w1 → Eb w1 w2 → p g w2) ∧ (∀ g g' w, (∀ j o d, Anc l j i → l[j]? = some o → o.dst = some d → g d = g' d) → p g w → p g' w) ∧
  ∀ g w', T w' → (i = brk → J w') → (∀ d, ((l.take n).filterMap (·.dst)).contains d = false → g d = a.tmps.getD d undef) → Deps n (atR Rs) g w' o →
    OpRel P o (evL g) w' fun v w'' => p (updO g o.dst v) w'' ∧ ((i ≠ brk ∧ Below w'.heap.size w' w'') ∨ (i = brk ∧ Eb w' w''))
def OpsBrk (P : Program) (l : List Oper) (n : Nat) (Rs : List RelP) (a : Act) (T J : World → Prop) (Eb : World → World → Prop) (brk : Nat) : Nat → List Oper → List RelP → Prop
  | _, [], _ => True
  | _, _ :: _, [] => False
  | i, o :: r, p :: ps => OpBrk P l n Rs a T J Eb brk i o p ∧ OpsBrk P l n Rs a T J Eb brk (i + 1) r ps
section
variable {Rs : List RelP} {T J : World → Prop} {Eb : World → World → Prop} {brk : Nat}
theorem OpsBrk.at : ∀ {r : List Oper} {ps : List RelP} {k : Nat}, OpsBrk P l n Rs a T J Eb brk k r ps → ∀ {j : Nat} {o : Oper}, r[j]? = some o → OpBrk P l n Rs a T J Eb brk (k + j) o (ps.getD j (fun _ _ => True))
  | [], _, _, _, _, _, h => by simp at h
  | _ :: _, [], _, h, _, _, _ => h.elim
  | x :: r, p :: ps, k, h, 0, o, hj => by
    simp at hj
    subst hj
    exact h.1
  | x :: r, p :: ps, k, h, j + 1, o, hj => by
    have := OpsBrk.at h.2 (j := j) (o := o) (by simpa using hj)
    rw [show k + 1 + j = k + (j + 1) by omega] at this
    simpa using this
theorem OpsBrk.nil {i : Nat} {ps : List RelP} : OpsBrk P l n Rs a T J Eb brk i [] ps := by cases ps <;> trivial
theorem OpsBrk.cons {i : Nat} {o : Oper} {r : List Oper} {p : RelP} {ps : List RelP} (h : OpBrk P l n Rs a T J Eb brk i o p) (h' : OpsBrk P l n Rs a T J Eb brk (i + 1) r ps) : OpsBrk P l n Rs a T J Eb brk i (o :: r) (p :: ps) := ⟨h, h'⟩
end
theorem wp_region_opsB (n : Nat) (T J : World → Prop) (Eb : World → World → Prop) (brk : Nat) (Rs : List RelP) {id : Nat} (hm : P.follows .mixedOrders = true) (hB : relB l n = true) (hn : Rs.length = n) (hsz : ((l.take n).filterMap (·.dst)).all (fun d => decide (d < a.tmps.size)) = true)
    (hT1 : ∀ w1 w2, T w1 → Below w1.heap.size w1 w2 → T w2) (hT2 : ∀ w1 w2, T w1 → Eb w1 w2 → T w2) (hJ : ∀ w1 w2, J w1 → Below w1.heap.size w1 w2 → J w2) (hT0 : T w.drew) (hJ0 : J w.drew)
    (hops : OpsBrk P l n Rs a T J Eb brk 0 (l.take n) Rs) (hend : ∀ f w', T w' → AllR Rs f w' → wpList P l.toArray Q (l.drop n) (fillA a (l.take n) f) w') : (Code.region id l.toArray true).wp P Q a w := by
  have hle : n ≤ l.length := by
    have := hB
    simp only [relB, Bool.and_eq_true, Bool.or_eq_true, decide_eq_true_eq] at this
    rcases this.1.1.1.1 with h | h <;> omega
  have hat : ∀ i, i < n → ∃ o, l[i]? = some o ∧ OpBrk P l n Rs a T J Eb brk i o (atR Rs i) := fun i hi => by
    have hil : i < l.length := by omega
    refine ⟨l[i], by simp [hil], ?_⟩
    have := hops.at (j := i) (o := l[i]) (by rw [List.getElem?_take]; simp [hi, hil])
    rwa [Nat.zero_add] at this
  have htriv : ∀ i g w, ¬ i < n → atR Rs i g w := fun i g w hi => by
    unfold atR
    rw [List.getD_eq_getElem?_getD, List.getElem?_eq_none (by omega)]
    trivial
  have hsup : ∀ i g g' w, (∀ j o d, Anc l j i → l[j]? = some o → o.dst = some d → g d = g' d) → atR Rs i g w → atR Rs i g' w := fun i g g' w1 he h => by
    by_cases hi : i < n
    · obtain ⟨o, _, _, _, h2, _⟩ := hat i hi
      exact h2 g g' w1 he h
    · exact htriv i g' w1 hi
  refine wp_region_brk n T J Eb brk (atR Rs) hm hB hT1 hT2 hJ hT0 hJ0 (fun i g w1 w2 h hb => ?_) (fun i g w1 w2 hne h hb => ?_) hsup (fun i o hi ho => ?_) (fun f w' hb hR => hend f w' hb (AllR.of fun i hi => hR i (by omega)))
  · by_cases hi : i < n
    · obtain ⟨o, _, h1, _⟩ := hat i hi
      exact h1 g w1 w2 h hb
    · exact htriv i g w2 hi
  · by_cases hi : i < n
    · obtain ⟨o, _, _, h1, _⟩ := hat i hi
      exact h1 hne g w1 w2 h hb
    · exact htriv i g w2 hi
  · obtain ⟨o', ho', _, _, _, h3⟩ := hat i hi
    rw [ho] at ho'
    injection ho' with ho'
    subst ho'
    exact StepBrk.of hi hB hsz hsup h3
section
variable {Rs : List RelP} {T J : World → Prop} {Eb : World → World → Prop} {brk : Nat}
theorem OpBrk.val {i d : Nat} {o : Oper} {c : Value} (hi : l[i]? = some o) (ho : o.dst = some d) (hne : i ≠ brk)
    (h : ∀ g w', T w' → (∀ d, ((l.take n).filterMap (·.dst)).contains d = false → g d = a.tmps.getD d undef) → Deps n (atR Rs) g w' o → (execOp (evL g) o).run P w' = .ok (.value c) w') :
    OpBrk P l n Rs a T J Eb brk i o (fun g _ => g d = c) := by
  refine ⟨fun _ _ _ h _ => h, fun _ _ _ _ h _ => h, fun g g' _ he h => (he i o d (Anc.self i) hi ho).symm.trans h, fun g w' hb _ hout hd => ?_⟩
  unfold OpRel
  rw [h g w' hb hout hd]
  refine ⟨?_, .inl ⟨hne, Below.refl _ _⟩⟩
  rw [ho]
  unfold updO upd
  simp
theorem OpBrk.one {i d : Nat} {o : Oper} {p : Value → World → Prop} (hi : l[i]? = some o) (ho : o.dst = some d) (hne : i ≠ brk) (hst : ∀ v w1 w2, p v w1 → Below w1.heap.size w1 w2 → p v w2) (hst2 : ∀ v w1 w2, p v w1 → Eb w1 w2 → p v w2)
    (h : ∀ g w', T w' → (∀ d, ((l.take n).filterMap (·.dst)).contains d = false → g d = a.tmps.getD d undef) → Deps n (atR Rs) g w' o → OpRel P o (evL g) w' fun v w'' => p v w'' ∧ Below w'.heap.size w' w'') :
    OpBrk P l n Rs a T J Eb brk i o (fun g w => p (g d) w) := by
  refine ⟨fun g w1 w2 h hb => hst _ _ _ h hb, fun _ g w1 w2 h hb => hst2 _ _ _ h hb, fun g g' w1 he h => ?_, fun g w' hb _ hout hd => ?_⟩
  · show p (g' d) w1
    rw [← he i o d (Anc.self i) hi ho]
    exact h
  · have h1 := h g w' hb hout hd
    rw [ho]
    have e : ∀ v, updO g (some d) v d = v := fun v => by unfold updO upd; simp
    simp only [e]
    exact OpRel.mono (fun v w'' h => ⟨h.1, .inl ⟨hne, h.2⟩⟩) h1
end
end
end Wh
