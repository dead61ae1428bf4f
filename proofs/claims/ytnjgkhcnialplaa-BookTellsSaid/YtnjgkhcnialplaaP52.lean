/- Texts of the claim, joined: BookC. -/
import Derived.Test.YtnjgkhcnialplaaP51
import Derived.Test.YtnjgkhcnialplaaP45
namespace Wh
open Go Go.RowKit Go.Shelf Go.Proofs
attribute [local go_sem] run_indexAt_letter evL_tmp evL_const evL_func

theorem oneTotal (x : Total) : ∀ u ∈ cTotal x, u.oneCell' = true := by simp [cTotal, Value.oneCell']
theorem totsTo_succ (s : State) (n o k : Nat) : totsTo s (n + 1) o k = totsTo s n o k ++ [tot s n o k] := by
  unfold totsTo
  rw [List.range_succ, List.map_append]
  rfl

set_option maxHeartbeats 8000000 in
set_option maxRecDepth 100000 in
theorem rTotalsOf (w : World) (v vs : Value) (p : Plan) (s : State) (hp : PlanV w w.heap.size v p) (hv : StateV w w.heap.size vs s) (hs : Sane p s) :
    Calls Try.prog 17 #[v, vs] w fun e w' => ∃ u, e = .returned u ∧ Own cTotal 4 42 w' w.heap.size u (totalsF p s) ∧ Below w.heap.size w w' := by
  have hcnt := hs.counts
  have h4 := hs.orders4
  have hsn := Lib.hid hs
  clear hs
  obtain ⟨Ab, cb, As, cs, rfl, hP', hBn, hSz, hlb, hls⟩ := openPl hp
  obtain ⟨A0, c0, A1, c1, A2, c2, A3, c3, A4, c4, A5, c5, A6, c6, rfl, hV, hN, hO, hH, hM, hI, hU, hX, hl0, hl1, hl2, hl3, hl4, hl5, hl6⟩ := openOne hv
  go_enter Try.func17, Try.ntmps17
  go_wp2_with fail
  obtain ⟨W0, hW0, hb0, hsz0, hsz1, hsE, hK⟩ := boxesTwo w p s Ab cb As cs A0 c0 A1 c1 A2 c2 A3 c3 A4 c4 A5 c5 A6 c6
  rw [hW0]
  clear hW0
  have hle := Lib.hid hb0.size
  go_loopw [6, 5, 7, 8, 9, 10] (fun i v _ _ _ _ wr => ∃ q : Nat, q ≤ p.sizes.length ∧ i = .int .i64 q ∧ Own cTotal 4 42 wr W0.heap.size v (totsTo s q s.orders.length 0) ∧ Below W0.heap.size W0 wr) (fun i _ _ _ _ _ _ => p.sizes.length - (intOf i).toNat)
  case atStart => exact ⟨0, Nat.zero_le _, rfl, Own.nil, Below.refl _ _⟩
  case round =>
    obtain ⟨q, hq, rfl, hT, h0⟩ := hrel
    obtain ⟨Av, cv, rfl⟩ := hT.isSlice
    rw [totsTo_length] at hT ⊢
    have hT' := Lib.hid hT
    clear hT
    have hB := hb0.trans (h0.mono hb0.size)
    obtain ⟨⟨y0, y1⟩, x0, x1, x2, x3, x4, x5, x6, hbz0, hbz1⟩ := hK.out wr (h0)
    by_cases hlt : q < p.sizes.length
    · have hqi : (q : Int) < (p.sizes.length : Int) := by omega
      have hbt := Lib.hid (Blk.new wr 42 #[.int .i64 (sumOf s.on q), .int .i64 0, .int .i64 0, .int .i64 0])
      have h0t := h0.alloc h0.size (.cells #[.int .i64 (sumOf s.on q), .int .i64 0, .int .i64 0, .int .i64 0] 42)
      have hTt := Lib.hid (hT'.out.alloc (.cells #[.int .i64 (sumOf s.on q), .int .i64 0, .int .i64 0, .int .i64 0] 42))
      have hne := Lib.hid (show (Value.slice Av q cv).ownBlock = none ∨ (Value.slice Av q cv).ownBlock ≠ some wr.heap.size from by
        cases ho : (Value.slice Av q cv).ownBlock with
        | none => exact .inl rfl
        | some g => exact .inr fun e => by injection e with e; have := (hT'.out.size g ho).2; omega)
      have hlt0 := Lib.hid h0.size
      go_wp2_with fail
      clear y0 y1 x0 x1 x2 x3 x4 x5 x6 hbz0 hbz1
      refine (rSumOf' _ _ p s.on q (hN.out _ hB) hsn.out.shelf (by omega)).mono ?_
      rintro e w' ⟨rfl, rfl⟩
      rw [Int.toNat_natCast]
      go_wp2_with fail
      generalize wr.heap.size = bt at hbt hne hlt0 ⊢
      generalize wr.alloc (.cells #[.int .i64 (sumOf s.on q), .int .i64 0, .int .i64 0, .int .i64 0] 42) = W3 at hbt h0t hTt ⊢
      go_loopw [8, 9, 10] (fun i _ _ wr => ∃ o : Nat, o ≤ s.orders.length ∧ i = .int .i64 o ∧ Own cTotal 4 42 wr W0.heap.size (.slice Av q cv) (totsTo s q s.orders.length 0) ∧ Below W0.heap.size W0 wr ∧ Blk wr bt 42 (cTotal (tot s q o 0))) (fun i _ _ _ => s.orders.length - (intOf i).toNat)
      case atStart => exact ⟨0, Nat.zero_le _, rfl, hTt.out, h0t, hbt.out⟩
      case round =>
        clear hTt hbt h0t hT' h0 hB
        obtain ⟨o, ho, rfl, hT, h0, hbt⟩ := hrel
        have hT' := Lib.hid hT
        have hbt' := Lib.hid hbt
        clear hT hbt
        have hB := hb0.trans (h0.mono hb0.size)
        obtain ⟨⟨y0, y1⟩, x0, x1, x2, x3, x4, x5, x6, hbz0, hbz1⟩ := hK.out wr (h0)
        by_cases hol : o < s.orders.length
        · have hoi : (o : Int) < (s.orders.length : Int) := by omega
          have l3 := (hsn.out.lines3 hol).2
          change (orderAt s.orders o).lines.length ≤ 3 at l3
          go_wp2_with fail
          clear y0 y1 x0 x1 x2 x3 x4 x5 x6 hbz0 hbz1
          go_loopw [9, 10] (fun i _ wr => ∃ k : Nat, k ≤ (orderAt s.orders o).lines.length ∧ i = .int .i64 k ∧ Own cTotal 4 42 wr W0.heap.size (.slice Av q cv) (totsTo s q s.orders.length 0) ∧ Below W0.heap.size W0 wr ∧ Blk wr bt 42 (cTotal (tot s q o k))) (fun i _ _ => (orderAt s.orders o).lines.length - (intOf i).toNat)
          case atStart => exact ⟨0, Nat.zero_le _, rfl, hT'.out, h0, hbt'.out⟩
          case round =>
            clear hT' hbt' h0 hB
            obtain ⟨k, hk, rfl, hT, h0, hbt⟩ := hrel
            have hT' := Lib.hid hT
            have hbt' := Lib.hid hbt
            clear hT hbt
            have hB := hb0.trans (h0.mono hb0.size)
            obtain ⟨⟨y0, y1⟩, x0, x1, x2, x3, x4, x5, x6, hbz0, hbz1⟩ := hK.out wr (h0)
            obtain ⟨A', c', hok1, hAb1, d0, d1, hsl⟩ := (hO.out wr hB).order hol
            by_cases hkl : k < (orderAt s.orders o).lines.length
            · have hki : (k : Int) < ((orderAt s.orders o).lines.length : Int) := by omega
              obtain ⟨hok2, hAb2, e0, e1, e2, e3⟩ := hsl.at_.line hkl
              have hl : lineAt (orderAt s.orders o).lines k = s.line o k := rfl
              rw [hl] at e0 e1 e2 e3
              clear hl
              obtain ⟨_, ⟨b1, b2⟩, ⟨b3, b4⟩, b5, b6⟩ := hsn.out.line hol hkl
              obtain ⟨b7, b8⟩ := kept_range hsn.out.holds o k
              have hTR := tot_range hsn.out q hol (k := k) hk
              have hbl := Lib.hid (Blk.new wr 75 #[.int .i64 (s.line o k).good, .int .i64 (s.line o k).want, .int .i64 (s.line o k).got, .int .i64 (s.line o k).back])
              have h0l := h0.alloc h0.size (.cells #[.int .i64 (s.line o k).good, .int .i64 (s.line o k).want, .int .i64 (s.line o k).got, .int .i64 (s.line o k).back] 75)
              have hTl := Lib.hid (hT'.out.alloc (.cells #[.int .i64 (s.line o k).good, .int .i64 (s.line o k).want, .int .i64 (s.line o k).got, .int .i64 (s.line o k).back] 75))
              have hbtl := Lib.hid (hbt'.out.alloc (.cells #[.int .i64 (s.line o k).good, .int .i64 (s.line o k).want, .int .i64 (s.line o k).got, .int .i64 (s.line o k).back] 75))
              have htl := tot_line s q o k
              by_cases hgd : (s.line o k).good = q
              · have hgq : ((s.line o k).good == (q : Int)) = true := by simpa using hgd
                rw [if_pos hgd] at htl
                have htl' := Lib.hid htl
                clear hgd htl
                go_wp2_with fail
                clear y0 y1 x0 x1 x2 x3 x4 x5 x6 hbz0 hbz1
                clear d0 d1 e0 e1 e2 e3 hgq hsl hok1 hok2 hAb1 hAb2
                generalize wr.heap.size = wl at hbl ⊢
                generalize wr.alloc (.cells #[.int .i64 (s.line o k).good, .int .i64 (s.line o k).want, .int .i64 (s.line o k).got, .int .i64 (s.line o k).back] 75) = W4 at hbl h0l hTl hbtl ⊢
                have hB4 := hb0.trans (h0l.mono hb0.size)
                obtain ⟨T0, hT0⟩ : ∃ T, tot s q o k = T := ⟨_, rfl⟩
                rw [hT0] at hTR hbtl htl'
                have hwa : IntKind.i64.wrap (T0.held + kept s.holds o k) = T0.held + kept s.holds o k := IntWalk.i64_in _ (by omega)
                refine wp_region_ops 9 [fun gq _ => gq 54 = .pointer (some ⟨bt, 1, none⟩), fun gq _ => gq 55 = .int .i64 T0.held, fun gq _ => gq 56 = .pointer (some ⟨w.heap.size + 1, 2, none⟩), fun gq _ => gq 57 = .slice A2 s.holds.length c2, fun gq _ => gq 58 = .int .i64 o, fun gq _ => gq 59 = .int .i64 k, fun gq w' => (fun v w' => v = .int .i64 (kept s.holds o k)) (gq 60) w', fun gq _ => gq 61 = .int .i64 (T0.held + kept s.holds o k), fun gq _ => gq 62 = .pointer (some ⟨bt, 1, none⟩)] (by kernel_rfl) (by kernel_rfl) rfl (by kernel_rfl) ?_ (fun f w2 hb2 hR => ?_)
                simp only [List.take_succ_cons, List.take_zero]
                refine OpsOK.cons (OpOK.val rfl rfl (fun gq w' hb ho hd => ?_)) ?_
                · have e7 := ho 7 rfl
                  go_simp
                refine OpsOK.cons (OpOK.val rfl rfl (fun gq w' hb ho hd => ?_)) ?_
                · have e54 : gq 54 = .pointer (some ⟨bt, 1, none⟩) := hd ⟨0, .data⟩ (by simp) rfl (by decide)
                  have x2 := (hbtl.out.below hb hbtl.out.lt).cell (j := 1) rfl
                  go_simp
                refine OpsOK.cons (OpOK.val rfl rfl (fun gq w' hb ho hd => ?_)) ?_
                · have e3 := ho 3 rfl
                  go_simp
                refine OpsOK.cons (OpOK.val rfl rfl (fun gq w' hb ho hd => ?_)) ?_
                · have e56 : gq 56 = .pointer (some ⟨w.heap.size + 1, 2, none⟩) := hd ⟨2, .data⟩ (by simp) rfl (by decide)
                  have x2 := (hK.out w' (h0l.trans (hb.mono h0l.size))).2.2.2.1
                  go_simp
                refine OpsOK.cons (OpOK.val rfl rfl (fun gq w' hb ho hd => ?_)) ?_
                · have e8 := ho 8 rfl
                  go_simp
                refine OpsOK.cons (OpOK.val rfl rfl (fun gq w' hb ho hd => ?_)) ?_
                · have e9 := ho 9 rfl
                  go_simp
                refine OpsOK.cons (OpOK.one (d := 60) (p := (fun v w' => v = .int .i64 (kept s.holds o k))) rfl rfl (fun v w1 w2 h hb => h) (fun gq w' hb ho hd => ?_)) ?_
                · have e57 : gq 57 = .slice A2 s.holds.length c2 := hd ⟨3, .data⟩ (by simp) rfl (by decide)
                  have e58 : gq 58 = .int .i64 o := hd ⟨4, .data⟩ (by simp) rfl (by decide)
                  have e59 : gq 59 = .int .i64 k := hd ⟨5, .data⟩ (by simp) rfl (by decide)
                  have hs := hH.out w' (hB4.trans (hb.mono hB4.size))
                  unfold OpRel
                  go_simp
                  refine (rKeptOf w' _ s.holds o k hs hsn.out.holds).mono ?_
                  rintro e w2 ⟨rfl, rfl⟩
                  exact ⟨_, rfl, rfl, Below.refl _ _⟩
                refine OpsOK.cons (OpOK.val rfl rfl (fun gq w' hb ho hd => ?_)) ?_
                · have e55 : gq 55 = .int .i64 T0.held := hd ⟨1, .data⟩ (by simp) rfl (by decide)
                  have e60 : (gq 60) = .int .i64 (kept s.holds o k) := hd ⟨6, .data⟩ (by simp) rfl (by decide)
                  go_simp
                refine OpsOK.cons (OpOK.val rfl rfl (fun gq w' hb ho hd => ?_)) ?_
                · have e7 := ho 7 rfl
                  go_simp
                exact OpsOK.nil
                obtain ⟨r54, r55, r56, r57, r58, r59, r60, r61, r62, _⟩ := hR
                replace r60 : (f 60) = .int .i64 (kept s.holds o k) := r60
                simp only [fillA, fillT, List.take_succ_cons, List.take_zero, List.drop_succ_cons, List.drop_zero, List.filterMap_cons, List.filterMap_nil, List.foldl_cons, List.foldl_nil, List.setIfInBounds_toArray, List.set_cons_zero, List.set_cons_succ, r54, r55, r56, r57, r58, r59, r60, r61, r62]
                clear r54 r55 r56 r57 r58 r59 r60 r61 r62
                have hbt5 := hbtl.out.below hb2 hbtl.out.lt
                have hbl5 := hbl.out.below hb2 hbl.out.lt
                have hT5 := hTl.out.below hb2
                have h05 := h0l.trans (hb2.mono h0l.size)
                have c1 := hbt5.cell (j := 1) rfl
                have hdl : wl ≠ bt := fun e => by
                  rw [e] at hbl5
                  exact hbl5.ne hbt5 (by decide) rfl
                have hdl' := Lib.hid hdl
                have hst := set_row hbt5 1 (.int .i64 (T0.held + kept s.holds o k))
                have h06 := h05.setCell (p := ⟨bt, 1, none⟩) hlt0.out (.int .i64 (T0.held + kept s.holds o k))
                refine wpList_store_int rfl (.tmp 62) (.tmp 61) rfl rfl bt 1 _ _ rfl rfl c1 (hbt5.frozen 1) (fun w6 hw6 => ?_)
                rw [hw6] at hst h06
                have hT6 := hT5.kept hst.2 hne.out
                have hbl6 := hbl5.grown hst.2 (by intro e; injection e with e; exact hdl'.out e)
                refine wpList_nil ?_
                clear hw6 c1 hbt5 hbl5 hT5 h05 hdl hwa hTl hbl hbtl h0l hB4 hT' hbt' h0 hB
                have hbt6 : Blk w6 bt 42 [.int .i64 T0.on, .int .i64 (T0.held + kept s.holds o k), .int .i64 T0.back, .int .i64 T0.got] := hst.1
                have c2' := hbt6.cell (j := 2) rfl
                have l3' := hbl6.cell (j := 3) rfl
                have hwa : IntKind.i64.wrap (T0.back + (s.line o k).back) = T0.back + (s.line o k).back := IntWalk.i64_in _ (by omega)
                have hst2 := set_row hbt6 2 (.int .i64 (T0.back + (s.line o k).back))
                have h07 := h06.setCell (p := ⟨bt, 2, none⟩) hlt0.out (.int .i64 (T0.back + (s.line o k).back))
                have hf := hbt6.frozen 2
                clear hst
                go_wp2_with (refine wpList_store_int rfl (.tmp 68) (.tmp 67) rfl rfl bt 2 _ _ rfl rfl c2' hf (fun w7 hw7 => ?_); refine Hid.out ?_)
                unfold Hid
                rw [hw7] at hst2 h07
                have hT7 := hT6.kept hst2.2 hne.out
                have hbl7 := hbl6.grown hst2.2 (by intro e; injection e with e; exact hdl'.out e)
                have hbt7 : Blk w7 bt 42 [.int .i64 T0.on, .int .i64 (T0.held + kept s.holds o k), .int .i64 (T0.back + (s.line o k).back), .int .i64 T0.got] := hst2.1
                clear hw7 c2' l3' hwa hbt6 hbl6 hT6 h06 hst2 hf
                have c3' := hbt7.cell (j := 3) rfl
                have l2' := hbl7.cell (j := 2) rfl
                have hwa : IntKind.i64.wrap (T0.got + (s.line o k).got) = T0.got + (s.line o k).got := IntWalk.i64_in _ (by omega)
                have hst3 := set_row hbt7 3 (.int .i64 (T0.got + (s.line o k).got))
                have h08 := h07.setCell (p := ⟨bt, 3, none⟩) hlt0.out (.int .i64 (T0.got + (s.line o k).got))
                have hf := hbt7.frozen 3
                go_wp2_with (refine wpList_store_int rfl (.tmp 74) (.tmp 73) rfl rfl bt 3 _ _ rfl rfl c3' hf (fun w8 hw8 => ?_); refine Hid.out ?_)
                unfold Hid
                rw [hw8] at hst3 h08
                have hT8 := hT7.kept hst3.2 hne.out
                have hbt8 := Lib.hid (show Blk w8 bt 42 (cTotal (tot s q o (k + 1))) by rw [htl'.out]; exact hst3.1)
                clear hw8 c3' l2' hwa hbt7 hbl7 hT7 h07 hst3 hf
                have hT8' := Lib.hid hT8
                clear hT8
                go_wp2_with fail
                go_roundw
                case rel => exact ⟨k + 1, by omega, by go_num, hT8'.out, h08, hbt8.out⟩
                case measure => simp [intOf]; omega
              · have hgq : ((s.line o k).good == (q : Int)) = false := by simpa using hgd
                rw [if_neg hgd] at htl
                have hbt8 := Lib.hid (show Blk (wr.alloc (.cells #[.int .i64 (s.line o k).good, .int .i64 (s.line o k).want, .int .i64 (s.line o k).got, .int .i64 (s.line o k).back] 75)) bt 42 (cTotal (tot s q o (k + 1))) by rw [htl]; exact hbtl.out)
                clear hgd htl
                go_wp2_with fail
                go_roundw
                case rel => exact ⟨k + 1, by omega, by go_num, hTl.out, h0l, hbt8.out⟩
                case measure => simp [intOf]; omega
            · obtain rfl : k = (orderAt s.orders o).lines.length := by omega
              go_wp2_with fail
              go_roundw
              case rel => exact ⟨o + 1, by omega, by go_num, hT'.out, h0, by rw [tot_order]; exact hbt'.out⟩
              case measure => simp [intOf]; omega
        · obtain rfl : o = s.orders.length := by omega
          obtain ⟨T0, hT0⟩ : ∃ T, tot s q s.orders.length 0 = T := ⟨_, rfl⟩
          rw [hT0] at hbt'
          have c0 := hbt'.out.cell (j := 0) rfl
          have c1 := hbt'.out.cell (j := 1) rfl
          have c2 := hbt'.out.cell (j := 2) rfl
          have c3 := hbt'.out.cell (j := 3) rfl
          have hTs := Lib.hid (show totsTo s (q + 1) s.orders.length 0 = totsTo s q s.orders.length 0 ++ [T0] by rw [totsTo_succ, hT0])
          clear hT0
          go_wp2_with (refine wpList_push _ rfl (.tmp 75) (.tmp 77) 32 42 rfl W0.heap.size _ 4 32 Try.underlying32 infoTotal rfl (by decide) (by decide) _ (totsTo s q s.orders.length 0) T0 rfl (hT'.out.alloc _) ⟨wr.heap.size, 0, none⟩ 1 rfl rfl (cells_new _ _ _) (oneTotal _) (by rw [totsTo_length]; omega) (by have := h0.size; simp; omega) ?_; refine Hid.out ?_)
          unfold Hid
          intro v' w9 ho9 hg9 _ hb9
          have h09 := (h0.alloc h0.size (.cells #[.int .i64 T0.on, .int .i64 T0.held, .int .i64 T0.back, .int .i64 T0.got] 42)).trans hb9
          have ho9' := Lib.hid (show Own cTotal 4 42 w9 W0.heap.size v' (totsTo s (q + 1) s.orders.length 0) by rw [hTs.out]; exact ho9)
          clear c0 c1 c2 c3 ho9 hg9 hb9
          go_wp2_with fail
          go_roundw
          case rel => exact ⟨q + 1, by omega, by go_num, ho9'.out, h09⟩
          case measure => simp [intOf]; omega
    · obtain rfl : q = p.sizes.length := by omega
      go_wp2_with fail
      go_ret
      exact ⟨.slice Av p.sizes.length cv, rfl, hT'.out.from_ hle.out, hB⟩

set_option maxHeartbeats 4000000 in
theorem rOpenOf (w : World) (vs : Value) (s : State) (hv : StateV w w.heap.size vs s) (h4 : s.orders.length ≤ 4) :
    Calls Try.prog 18 #[vs] w fun e w' => e = .returned (.int .i64 (openF s)) ∧ Below w.heap.size w w' := by
  obtain ⟨A0, c0, A1, c1, A2, c2, A3, c3, A4, c4, A5, c5, A6, c6, rfl, hV, hN, hO, hH, hM, hI, hU, hX, hl0, hl1, hl2, hl3, hl4, hl5, hl6⟩ := openOne hv
  go_enter Try.func18, Try.ntmps18
  go_wp2_with fail
  obtain ⟨W0, hW0, hb0, hsz0, hsz1, hsE, hK⟩ := boxesOne w s A0 c0 A1 c1 A2 c2 A3 c3 A4 c4 A5 c5 A6 c6
  rw [hW0]
  clear hW0
  go_loopw [4, 3] (fun i n wr => ∃ k : Nat, k ≤ s.orders.length ∧ i = .int .i64 k ∧ n = .int .i64 (openTo s k) ∧ Below W0.heap.size W0 wr) (fun i _ _ => s.orders.length - (intOf i).toNat)
  case atStart => exact ⟨0, Nat.zero_le _, rfl, rfl, Below.refl _ _⟩
  case round =>
    obtain ⟨k, hk, rfl, rfl, h0⟩ := hrel
    have hB := hb0.trans (h0.mono hb0.size)
    obtain ⟨⟨y0, y1⟩, x0, x1, x2, x3, x4, x5, x6, hbz0, hbz1⟩ := hK.out wr (h0)
    by_cases hlt : k < s.orders.length
    · have hki : (k : Int) < (s.orders.length : Int) := by omega
      obtain ⟨A', c', hok1, hAb1, d0, d1, hsl⟩ := (hO.out wr hB).order hlt
      have hr := openTo_range s k
      have hs' := openTo_succ s k
      by_cases hkd : (orderAt s.orders k).kind = 2
      · have hq : ((orderAt s.orders k).kind != 2) = false := by simpa using hkd
        rw [if_pos hkd, Int.add_zero] at hs'
        have hs2 := Lib.hid hs'
        clear hkd hs'
        go_wp2_with fail
        go_roundw
        case rel => exact ⟨k + 1, by omega, by go_num, by rw [hs2.out], h0⟩
        case measure => simp [intOf]; omega
      · have hq : ((orderAt s.orders k).kind != 2) = true := by simpa using hkd
        rw [if_neg hkd] at hs'
        have hs2 := Lib.hid hs'
        have hw1 : IntKind.i64.wrap (openTo s k + 1) = openTo s k + 1 := IntWalk.i64_in _ (by omega)
        clear hkd hs'
        go_wp2_with fail
        go_roundw
        case rel => exact ⟨k + 1, by omega, by go_num, by rw [hs2.out], h0⟩
        case measure => simp [intOf]; omega
    · obtain rfl : k = s.orders.length := by omega
      go_wp2_with fail
      go_ret
      exact ⟨rfl, hB⟩

theorem struct_eql {P : Program} {t : TypeId} (hS : P.underlying t = some (.struct (P.fieldsOf t))) (hp : P.stoodInHeld t = false) (xs ys : Array Value) (b : Bool) (h : ∀ w, (Op.eqFields 9999 xs ys (P.fieldsOf t).toList).run P w = .ok b w) (w : World) :
    (binOp .eql t (.agg xs) (.agg ys)).run P w = .ok (.bool b) w := by
  rw [run_eql_struct, show (10000 : Nat) = 9999 + 1 from rfl, run_equalIn_agg w 9999 t _ _ hS hp, h]
  rfl
theorem At.total {w : World} {B : Nat} {A : Option Addr} {l : List Total} (h : At w B A (l.flatMap cTotal)) {i : Nat} (hi : i < l.length) {x : Total} (hx : l[i] = x) :
    okA A ∧ ablk A < B ∧ w.cell? ⟨ablk A, aoff A + i * 4, none⟩ = some (.int .i64 x.on) ∧ w.cell? ⟨ablk A, aoff A + i * 4 + 1, none⟩ = some (.int .i64 x.held) ∧
    w.cell? ⟨ablk A, aoff A + i * 4 + 2, none⟩ = some (.int .i64 x.back) ∧ w.cell? ⟨ablk A, aoff A + i * 4 + 3, none⟩ = some (.int .i64 x.got) := by
  obtain ⟨h1, h2⟩ := h.okOf (k := 3) (fun _ => rfl) hi
  have e : l[i]? = some x := by rw [← hx]; simp [hi]
  have f := fun j hj v hv => h.flat (k := 4) (fun _ => rfl) e (j := j) hj (v := v) hv
  exact ⟨h1, h2, f 0 (by omega) _ rfl, f 1 (by omega) _ rfl, f 2 (by omega) _ rfl, f 3 (by omega) _ rfl⟩
theorem total_eq (x y : Total) : x = y ↔ x.on = y.on ∧ x.held = y.held ∧ x.back = y.back ∧ x.got = y.got := by cases x; cases y; simp
def vTotal (x : Total) : Value := .agg #[.int .i64 x.on, .int .i64 x.held, .int .i64 x.back, .int .i64 x.got]
theorem eqlTotal (x y : Total) (w : World) : (binOp .eql 42 (.agg #[.int .i64 x.on, .int .i64 x.held, .int .i64 x.back, .int .i64 x.got]) (.agg #[.int .i64 y.on, .int .i64 y.held, .int .i64 y.back, .int .i64 y.got])).run Try.prog w = .ok (.bool (decide (x = y))) w := by
  refine struct_eql (by kernel_rfl) (by kernel_rfl) _ _ _ (fun w => ?_) w
  have u3 := Try.underlying3
  have a3 := Try.isAgg3
  have z3 := Try.sizeOf3
  simp only [Program.fieldsOf, Try.underlying42]
  go_simp
  by_cases h1 : x.on = y.on <;> by_cases h2 : x.held = y.held <;> by_cases h3 : x.back = y.back <;> by_cases h4 : x.got = y.got <;> simp [h1, h2, h3, h4, total_eq]
theorem neqTotal (x y : Total) (w : World) : (binOp .neq 42 (.agg #[.int .i64 x.on, .int .i64 x.held, .int .i64 x.back, .int .i64 x.got]) (.agg #[.int .i64 y.on, .int .i64 y.held, .int .i64 y.back, .int .i64 y.got])).run Try.prog w = .ok (.bool (!decide (x = y))) w := by
  refine struct_eq (by kernel_rfl) (by kernel_rfl) _ _ _ (fun w => ?_) w
  have u3 := Try.underlying3
  have a3 := Try.isAgg3
  have z3 := Try.sizeOf3
  simp only [Program.fieldsOf, Try.underlying42]
  go_simp
  by_cases h1 : x.on = y.on <;> by_cases h2 : x.held = y.held <;> by_cases h3 : x.back = y.back <;> by_cases h4 : x.got = y.got <;> simp [h1, h2, h3, h4, total_eq]

theorem begTot : totalsE yardP busyS = [⟨12, 5, 0, 1⟩, ⟨6, 6, 3, 0⟩] := by decide
theorem begOpen : openE yardP busyS = (2, 0) := by decide
theorem begCheck : checkState yardP busyS = 0 := by decide
set_option maxHeartbeats 4000000 in
set_option maxRecDepth 100000 in
theorem bookBegun (w : World) : Calls Try.prog 19 #[] w fun e w' => e = .returned (.bool true) ∧ Below w.heap.size w w' := by
  go_enter Try.func19, Try.ntmps19
  go_wp2_with fail
  refine (lYard _).mono ?_
  rintro e W1 ⟨u1, rfl, hu1, hb1⟩
  go_wp2_with fail
  refine (lBusy _).mono ?_
  rintro e W2 ⟨V2, rfl, ho2, hb2⟩
  go_wp2_with fail
  refine (bkTotals _ _ _ yardP busyS (hu1.grow hb2) (ho2.view0 (by decide))).mono ?_
  rintro e W3 ⟨u3, rfl, hT3, hb3⟩
  rw [begCheck]
  rw [begTot] at hT3
  have hB3 := hb1.trans ((hb2.trans (hb3.mono hb2.size)).mono hb1.size)
  obtain ⟨g, c, _, rfl, hgb, hblk, _⟩ := hT3.row (by simp)
  have hT3' := Lib.hid hT3
  have hg3 := hblk.lt
  clear hT3 hblk
  go_wp2_with fail
  refine (lYard _).mono ?_
  rintro e W4 ⟨u4, rfl, hu4, hb4⟩
  go_wp2_with fail
  refine (lBusy _).mono ?_
  rintro e W5 ⟨V5, rfl, ho5, hb5⟩
  go_wp2_with fail
  refine (bkOpen _ _ _ yardP busyS (hu4.grow hb5) (ho5.view0 (by decide))).mono ?_
  rintro e W6 ⟨rfl, hb6⟩
  rw [begOpen]
  have h36 := hb4.trans ((hb5.trans (hb6.mono hb5.size)).mono hb4.size)
  have hB6 := hB3.trans (h36.mono hB3.size)
  have hT6 := hT3'.out.below h36
  obtain ⟨_, _, c0, c1, c2, c3⟩ := totAt hT6 (i := 0) (by decide) rfl
  obtain ⟨_, _, d0, d1, d2, d3⟩ := totAt hT6 (i := 1) (by decide) rfl
  simp only [Nat.zero_mul, Nat.zero_add, Nat.one_mul, List.getElem_cons_zero, List.getElem_cons_succ] at c0 c1 c2 c3 d0 d1 d2 d3
  have hq := eqlTotal
  have q1 : decide ((⟨12, 5, 0, 1⟩ : Total) = ⟨12, 5, 0, 1⟩) = true := by decide
  have q2 : decide ((⟨6, 6, 3, 0⟩ : Total) = ⟨6, 6, 3, 0⟩) = true := by decide
  have e1 := eqlTotal ⟨12, 5, 0, 1⟩ ⟨12, 5, 0, 1⟩
  have e2 := eqlTotal ⟨6, 6, 3, 0⟩ ⟨6, 6, 3, 0⟩
  rw [q1] at e1
  rw [q2] at e2
  have hgd : Try.prog.eqGuardType Try.prog.depth 42 = false := by kernel_rfl
  clear hq q1 q2 hT6 h36 hu1 hu4 ho2 ho5
  simp only [List.length_cons, List.length_nil]
  go_wp2_with fail
  go_ret
  exact ⟨rfl, hB6⟩

theorem rTotalsAt {w : World} {v vs : Value} {p : Plan} {s : State} (hp : PlanV w w.heap.size v p) (hv : StateV w w.heap.size vs s) (hc : checkState p s = 0) :
    Calls Try.prog 17 #[v, vs] w fun e w' => ∃ u, e = .returned u ∧ Own cTotal 4 42 w' w.heap.size u (totalsE p s) ∧ Below w.heap.size w w' := by
  have := rTotalsOf w v vs p s hp hv (checkState_zero.1 hc).1
  rwa [totalsE_ok hc]
theorem totalsE_length {p : Plan} {s : State} : (totalsE p s).length = if checkState p s = 0 then p.sizes.length else 0 := by
  unfold totalsE
  split
  · unfold totalsF
    rw [totsTo_length]
  · rfl

set_option maxHeartbeats 8000000 in
set_option maxRecDepth 100000 in
theorem bookTellsWalk (w : World) (v vs : Value) (p : Plan) (s : State) (hp : PlanV w w.heap.size v p) (hv : StateV w w.heap.size vs s) :
    Calls Try.prog 3 #[v, vs] w fun e w' => e = .returned (.bool true) ∧ Below w.heap.size w w' := by
  obtain ⟨Ab, cb, As, cs, rfl, hP', hBn, hSz, hlb, hls⟩ := openPl hp
  obtain ⟨A0, c0, A1, c1, A2, c2, A3, c3, A4, c4, A5, c5, A6, c6, rfl, hV, hN, hO, hH, hM, hI, hU, hX, hl0, hl1, hl2, hl3, hl4, hl5, hl6⟩ := openOne hv
  go_enter Try.func3, Try.ntmps3
  go_wp2_with fail
  obtain ⟨W0, hW0, hb0, hsz0, hsz1, hsE, hK⟩ := boxesTwo w p s Ab cb As cs A0 c0 A1 c1 A2 c2 A3 c3 A4 c4 A5 c5 A6 c6
  rw [hW0]
  clear hW0
  obtain ⟨⟨y0, y1⟩, x0, x1, x2, x3, x4, x5, x6, hbz0, hbz1⟩ := hK.out W0 (Below.refl W0.heap.size W0)
  go_wp2_with fail
  clear y0 y1 x0 x1 x2 x3 x4 x5 x6 hbz0 hbz1
  refine (bkTotals _ _ _ p s (hP'.out _ hb0) (hV.out _ hb0)).mono ?_
  rintro e W1 ⟨u1, rfl, hT1, h1⟩
  have hB1 := hb0.trans (h1.mono hb0.size)
  obtain ⟨A1', c1', rfl⟩ := hT1.isSlice
  have hT1' := Lib.hid hT1
  clear hT1
  obtain ⟨⟨y0, y1⟩, x0, x1, x2, x3, x4, x5, x6, hbz0, hbz1⟩ := hK.out W1 (h1)
  go_wp2_with fail
  clear y0 y1 x0 x1 x2 x3 x4 x5 x6 hbz0 hbz1
  refine (bkOpen _ _ _ p s (hP'.out _ hB1) (hV.out _ hB1)).mono ?_
  rintro e W2 ⟨rfl, h2⟩
  have h02 := h1.trans (h2.mono h1.size)
  have hB2 := hb0.trans (h02.mono hb0.size)
  obtain ⟨⟨y0, y1⟩, x0, x1, x2, x3, x4, x5, x6, hbz0, hbz1⟩ := hK.out W2 (h02)
  by_cases hc : checkState p s = 0
  · have hE := openE_ok hc
    have hlen := totalsE_length (p := p) (s := s)
    rw [if_pos hc] at hlen
    have hn3 : (totalsE p s).length ≤ 3 := by rw [hlen]; exact (checkState_zero.1 hc).1.counts.2.2.2
    have h4 := (checkState_zero.1 hc).1.orders4
    have hc' := Lib.hid hc
    rw [hE, hc]
    clear hE hlen hc
    go_wp2_with fail
    clear y0 y1 x0 x1 x2 x3 x4 x5 x6 hbz0 hbz1
    refine (rCheckAt _ _ _ (hP'.out _ hB2) (hV.out _ hB2) hc'.out).mono ?_
    rintro e W3 ⟨rfl, h3⟩
    have h03 := h02.trans (h3.mono h02.size)
    have hB3 := hb0.trans (h03.mono hb0.size)
    go_wp2_with fail
    refine wp_region_ops 7 [fun gq _ => gq 30 = .agg #[.slice Ab p.bins.length cb, .slice As p.sizes.length cs], fun gq _ => gq 31 = .agg #[.slice A0 s.on.length c0, .slice A1 s.orders.length c1, .slice A2 s.holds.length c2, .slice A3 s.moves.length c3, .slice A4 s.inn.length c4, .slice A5 s.out.length c5, .slice A6 s.fixed.length c6], fun gq w' => (fun v w' => ∃ A c, v = .slice A (totalsE p s).length c ∧ Own cTotal 4 42 w' W3.heap.size (.slice A (totalsE p s).length c) (totalsE p s)) (gq 32) w', fun gq _ => gq 33 = .agg #[.slice A0 s.on.length c0, .slice A1 s.orders.length c1, .slice A2 s.holds.length c2, .slice A3 s.moves.length c3, .slice A4 s.inn.length c4, .slice A5 s.out.length c5, .slice A6 s.fixed.length c6], fun gq w' => (fun v w' => v = .int .i64 (openF s)) (gq 34) w', fun gq w' => (fun v w' => ∃ A c, v = .slice A (totalsE p s).length c ∧ Own cTotal 4 42 w' W3.heap.size (.slice A (totalsE p s).length c) (totalsE p s)) (gq 10) w', fun gq _ => gq 11 = .int .i64 (openF s)] (by kernel_rfl) (by kernel_rfl) rfl (by kernel_rfl) ?_ (fun f w2 hb2 hR => ?_)
    simp only [List.take_succ_cons, List.take_zero]
    refine OpsOK.cons (OpOK.val rfl rfl (fun gq w' hb ho hd => ?_)) ?_
    · have e2 := ho 2 rfl
      obtain ⟨⟨y0, y1⟩, _⟩ := hK.out w' (h03.trans (hb.mono h03.size))
      go_simp
    refine OpsOK.cons (OpOK.val rfl rfl (fun gq w' hb ho hd => ?_)) ?_
    · have e3 := ho 3 rfl
      obtain ⟨_, x0, x1, x2, x3, x4, x5, x6, _⟩ := hK.out w' (h03.trans (hb.mono h03.size))
      go_simp
    refine OpsOK.cons (OpOK.one (d := 32) (p := (fun v w' => ∃ A c, v = .slice A (totalsE p s).length c ∧ Own cTotal 4 42 w' W3.heap.size (.slice A (totalsE p s).length c) (totalsE p s))) rfl rfl (fun v w1 w2 h hb => let ⟨A, c, h1, h2⟩ := h; ⟨A, c, h1, h2.below hb⟩) (fun gq w' hb ho hd => ?_)) ?_
    · have e30 : gq 30 = .agg #[.slice Ab p.bins.length cb, .slice As p.sizes.length cs] := hd ⟨0, .data⟩ (by simp) rfl (by decide)
      have e31 : gq 31 = .agg #[.slice A0 s.on.length c0, .slice A1 s.orders.length c1, .slice A2 s.holds.length c2, .slice A3 s.moves.length c3, .slice A4 s.inn.length c4, .slice A5 s.out.length c5, .slice A6 s.fixed.length c6] := hd ⟨1, .data⟩ (by simp) rfl (by decide)
      have hp' := hP'.out w' (hB3.trans (hb.mono hB3.size))
      have hv' := hV.out w' (hB3.trans (hb.mono hB3.size))
      unfold OpRel
      go_simp
      refine (rTotalsAt hp' hv' hc'.out).mono ?_
      rintro e w2 ⟨u, rfl, hu, hb2⟩
      obtain ⟨A, c, rfl⟩ := hu.isSlice
      exact ⟨_, rfl, ⟨A, c, rfl, hu.from_ hb.size⟩, hb2⟩
    refine OpsOK.cons (OpOK.val rfl rfl (fun gq w' hb ho hd => ?_)) ?_
    · have e3 := ho 3 rfl
      obtain ⟨_, x0, x1, x2, x3, x4, x5, x6, _⟩ := hK.out w' (h03.trans (hb.mono h03.size))
      go_simp
    refine OpsOK.cons (OpOK.one (d := 34) (p := (fun v w' => v = .int .i64 (openF s))) rfl rfl (fun v w1 w2 h hb => h) (fun gq w' hb ho hd => ?_)) ?_
    · have e33 : gq 33 = .agg #[.slice A0 s.on.length c0, .slice A1 s.orders.length c1, .slice A2 s.holds.length c2, .slice A3 s.moves.length c3, .slice A4 s.inn.length c4, .slice A5 s.out.length c5, .slice A6 s.fixed.length c6] := hd ⟨3, .data⟩ (by simp) rfl (by decide)
      have hv' := hV.out w' (hB3.trans (hb.mono hB3.size))
      unfold OpRel
      go_simp
      refine (rOpenOf w' _ s hv' h4).mono ?_
      rintro e w2 ⟨rfl, hb2⟩
      exact ⟨_, rfl, rfl, hb2⟩
    refine OpsOK.cons (OpOK.one (d := 10) (p := (fun v w' => ∃ A c, v = .slice A (totalsE p s).length c ∧ Own cTotal 4 42 w' W3.heap.size (.slice A (totalsE p s).length c) (totalsE p s))) rfl rfl (fun v w1 w2 h hb => let ⟨A, c, h1, h2⟩ := h; ⟨A, c, h1, h2.below hb⟩) (fun gq w' hb ho hd => ?_)) ?_
    · have e32 : ∃ A c, (gq 32) = .slice A (totalsE p s).length c ∧ Own cTotal 4 42 w' W3.heap.size (.slice A (totalsE p s).length c) (totalsE p s) := hd ⟨2, .data⟩ (by simp) rfl (by decide)
      obtain ⟨A, c, e32, hu⟩ := e32
      have hu' := Lib.hid hu
      clear hu
      unfold OpRel
      go_simp
      exact ⟨⟨A, c, ⟨rfl, rfl⟩, hu'.out⟩, Below.refl _ _⟩
    refine OpsOK.cons (OpOK.val rfl rfl (fun gq w' hb ho hd => ?_)) ?_
    · have e34 : (gq 34) = .int .i64 (openF s) := hd ⟨4, .data⟩ (by simp) rfl (by decide)
      go_simp
    exact OpsOK.nil
    obtain ⟨r30, r31, r32, r33, r34, r10, r11, _⟩ := hR
    replace r32 : ∃ A c, (f 32) = .slice A (totalsE p s).length c ∧ Own cTotal 4 42 w2 W3.heap.size (.slice A (totalsE p s).length c) (totalsE p s) := r32
    replace r34 : (f 34) = .int .i64 (openF s) := r34
    replace r10 : ∃ A c, (f 10) = .slice A (totalsE p s).length c ∧ Own cTotal 4 42 w2 W3.heap.size (.slice A (totalsE p s).length c) (totalsE p s) := r10
    simp only [fillA, fillT, List.take_succ_cons, List.take_zero, List.drop_succ_cons, List.drop_zero, List.filterMap_cons, List.filterMap_nil, List.foldl_cons, List.foldl_nil, List.setIfInBounds_toArray, List.set_cons_zero, List.set_cons_succ, r30, r31, r33, r34, r11]
    clear r30 r31 r33 r34 r11
    obtain ⟨A2', c2', e10, hT2⟩ := r10
    simp only [e10]
    clear e10 r32
    have h13 := h2.trans ((h3.trans (hb2.mono h3.size)).mono h2.size)
    have hT3 := hT1'.out.below h13
    have hb4 := hB3.trans (hb2.mono hB3.size)
    have hA1 := Lib.hid (hT3.sl (by omega)).at_
    have hA2 := Lib.hid (hT2.sl (by omega)).at_
    clear hT3 hT2 hT1' h13
    generalize f 32 = z32
    go_wp2_with fail
    have hq := neqTotal
    have hgd : Try.prog.eqGuardType Try.prog.depth 42 = false := by kernel_rfl
    generalize hl : (totalsE p s).length = n at hn3 ⊢
    go_loopw [12] (fun i wr => ∃ k : Nat, k ≤ n ∧ i = .int .i64 k ∧ Below w2.heap.size w2 wr) (fun i _ => n - (intOf i).toNat)
    case atStart => exact ⟨0, Nat.zero_le _, rfl, Below.refl _ _⟩
    case round =>
      obtain ⟨k, hk, rfl, h24⟩ := hrel
      by_cases hkn : k < n
      · have hki : (k : Int) < (n : Int) := by omega
        obtain ⟨x, hx⟩ : ∃ x, (totalsE p s)[k]'(by rw [hl]; exact hkn) = x := ⟨_, rfl⟩
        obtain ⟨o1, l1, a0, a1, a2, a3⟩ := (hA1.out.up h24 h24.size).total (by rw [hl]; exact hkn) hx
        obtain ⟨o2, l2, d0, d1, d2, d3⟩ := (hA2.out.up h24 h24.size).total (by rw [hl]; exact hkn) hx
        have hxx : decide (x = x) = true := by simp
        go_wp2_with fail
        go_quiet (fail)
        go_wp2_with fail
        go_roundw
        case rel => exact ⟨k + 1, by omega, by go_num, below_drewN h24 _⟩
        case measure => simp [intOf]; omega
      · obtain rfl : k = n := by omega
        go_wp2_with fail
        have hB4 := hb4.trans (h24.mono hb4.size)
        refine (bookBegun _).mono ?_
        rintro e W8 ⟨rfl, h8⟩
        go_wp2_with fail
        go_ret
        exact ⟨rfl, (hB4).trans (h8.mono (hB4).size)⟩
  · have hE := openE_bad hc
    have hlen := totalsE_length (p := p) (s := s)
    rw [if_neg hc] at hlen
    have hne : (checkState p s == 0) = false := by simpa using hc
    have hc' := Lib.hid (show checkState p s = checkState p s from rfl)
    rw [hE, hlen]
    clear hE hlen hc hT1'
    go_wp2_with fail
    clear y0 y1 x0 x1 x2 x3 x4 x5 x6 hbz0 hbz1
    refine (rCheckAt _ _ _ (hP'.out _ hB2) (hV.out _ hB2) rfl).mono ?_
    rintro e W3 ⟨rfl, h3⟩
    have hB3 := hB2.trans (h3.mono hB2.size)
    go_wp2_with fail
    go_loopw [12] (fun i wr => i = .int .i64 0 ∧ Below W3.heap.size W3 wr) (fun _ _ => 0)
    case atStart => exact ⟨rfl, Below.refl _ _⟩
    case round =>
      obtain ⟨rfl, h34⟩ := hrel
      have hB4 := hB3.trans (h34.mono hB3.size)
      go_wp2_with fail
      refine (bookBegun _).mono ?_
      rintro e W8 ⟨rfl, h8⟩
      go_wp2_with fail
      go_ret
      exact ⟨rfl, (hB4).trans (h8.mono (hB4).size)⟩
end Wh
