/- Texts of the claim, joined: BookB. -/
import Derived.Laws.MakeOwn
import Derived.StillTailTactics
import Derived.Test.YtnjgkhcnialplaaP50
import Derived.Test.YtnjgkhcnialplaaP31
import Derived.Test.YtnjgkhcnialplaaP34
import Derived.Test.YtnjgkhcnialplaaP38
namespace Wh
open Go Go.RowKit Go.Shelf Go.Proofs
attribute [local go_sem] run_indexAt_letter

theorem infoTotal : Elem Try.prog 42 (.agg #[.int .i64 0, .int .i64 0, .int .i64 0, .int .i64 0]) 4 32 := elem_of (by kernel_rfl)
def zT : Array Value := #[.int .i64 0, .int .i64 0, .int .i64 0, .int .i64 0]
theorem made_totals (n : Nat) : (madeCells zT (n * 4)).toList = (List.replicate n dTotal).flatMap cTotal := by
  have h1 : (madeCells zT (n * 4)).toList = List.replicate (n * 4) (.int .i64 0) := by
    apply List.ext_getElem
    · simp [madeCells]
    · intro i h1 h2
      have : i % 4 = 0 ∨ i % 4 = 1 ∨ i % 4 = 2 ∨ i % 4 = 3 := by omega
      rcases this with h | h | h | h <;> simp [madeCells, zT, h]
  have h2 : (List.replicate n dTotal).flatMap cTotal = List.replicate (n * 4) (.int .i64 0) := by
    induction n with
    | zero => rfl
    | succ n ih =>
      rw [List.replicate_succ, List.flatMap_cons, ih (by
        apply List.ext_getElem
        · simp [madeCells]
        · intro i h1 h2
          have : i % 4 = 0 ∨ i % 4 = 1 ∨ i % 4 = 2 ∨ i % 4 = 3 := by omega
          rcases this with h | h | h | h <;> simp [madeCells, zT, h]), show (n + 1) * 4 = 4 + n * 4 by omega, ← List.replicate_append_replicate]
      rfl
  rw [h1, h2]
theorem run_make_totals (n : Nat) (hn : n ≤ 1000) (w : World) : (Instr.makeSlice 32 (.int .i64 (n : Int)) (.int .i64 (n : Int))).run Try.prog w = .ok (.slice (some ⟨w.heap.size, 0, none⟩) n n) (w.alloc (.cells (madeCells zT (n * 4)) 42)) := by
  obtain ⟨i, hi, hz, hs, hb⟩ := infoTotal
  have := run_make (P := Try.prog) w 32 42 i _ Try.underlying32 hi hz .i64 .i64 n n (by omega) (Int.le_refl _) (by rw [hb]; omega) (by omega)
  simp only [Int.toNat_natCast, hs] at this
  exact this
theorem Own.made_totals (w : World) (n : Nat) (hn : n ≤ 1000) : Own cTotal 4 42 (w.alloc (.cells (madeCells zT (n * 4)) 42)) w.heap.size (.slice (some ⟨w.heap.size, 0, none⟩) n n) (List.replicate n dTotal) := by
  have := Own.lit (base := w.heap.size) (enc := cTotal) (size := 4) w 42 (madeCells zT (n * 4)) (List.replicate n dTotal) (Nat.le_refl _) (by simp; omega) (fun _ => rfl) (Wh.made_totals n)
  simpa using this
theorem totAt {w : World} {base g n c : Nat} {l : List Total} (h : Own cTotal 4 42 w base (.slice (some ⟨g, 0, none⟩) n c) l) {i : Nat} (hi : i < l.length) {x : Total} (hx : l[i] = x) : base ≤ g ∧ (∃ cur, Blk w g 42 cur) ∧
    w.cell? ⟨g, i * 4, none⟩ = some (.int .i64 x.on) ∧ w.cell? ⟨g, i * 4 + 1, none⟩ = some (.int .i64 x.held) ∧ w.cell? ⟨g, i * 4 + 2, none⟩ = some (.int .i64 x.back) ∧ w.cell? ⟨g, i * 4 + 3, none⟩ = some (.int .i64 x.got) := by
  obtain ⟨g', c', cur, e1, h2, h3, h4⟩ := h.at (fun _ => rfl) hi
  injection e1 with e1
  injection e1 with e1
  injection e1 with e1
  subst e1
  rw [hx] at h4
  exact ⟨h2, ⟨cur, h3⟩, h4 0 _ rfl, h4 1 _ rfl, h4 2 _ rfl, h4 3 _ rfl⟩

set_option maxHeartbeats 8000000 in
set_option maxRecDepth 100000 in
theorem bkTotals (w : World) (v vs : Value) (p : Plan) (s : State) (hp : PlanV w w.heap.size v p) (hv : StateV w w.heap.size vs s) :
    Calls Try.prog 14 #[v, vs] w fun e w' => ∃ u, e = .returned (.tuple #[u, .int .i64 (checkState p s)]) ∧ Own cTotal 4 42 w' w.heap.size u (totalsE p s) ∧ Below w.heap.size w w' := by
  obtain ⟨Ab, cb, As, cs, rfl, hP', hBn, hSz, hlb, hls⟩ := openPl hp
  obtain ⟨A0, c0, A1, c1, A2, c2, A3, c3, A4, c4, A5, c5, A6, c6, rfl, hV, hN, hO, hH, hM, hI, hU, hX, hl0, hl1, hl2, hl3, hl4, hl5, hl6⟩ := openOne hv
  go_enter Try.func14, Try.ntmps14
  go_wp2_with fail
  obtain ⟨W0, hW0, hb0, hsz0, hsz1, hsE, hK⟩ := boxesTwo w p s Ab cb As cs A0 c0 A1 c1 A2 c2 A3 c3 A4 c4 A5 c5 A6 c6
  rw [hW0]
  clear hW0
  obtain ⟨⟨y0, y1⟩, x0, x1, x2, x3, x4, x5, x6, hbz0, hbz1⟩ := hK.out W0 (Below.refl W0.heap.size W0)
  go_wp2_with fail
  clear y0 y1 x0 x1 x2 x3 x4 x5 x6 hbz0 hbz1
  refine (sCheck _ _ _ p s (hP'.out _ hb0) (hV.out _ hb0)).mono ?_
  rintro e W1 ⟨rfl, h1⟩
  have hB1 := hb0.trans (h1.mono hb0.size)
  obtain ⟨⟨y0, y1⟩, x0, x1, x2, x3, x4, x5, x6, hbz0, hbz1⟩ := hK.out W1 (h1)
  by_cases hc : checkState p s = 0
  · have hsn := Lib.hid (checkState_zero.1 hc).1
    have hE := Lib.hid (totalsE_ok hc)
    have hc' := Lib.hid hc
    rw [hc]
    clear hc
    have hcnt := hsn.out.counts
    have hmk := run_make_totals p.sizes.length (by omega)
    have h2 : Below W0.heap.size W0 (W1.alloc (.cells (madeCells zT (p.sizes.length * 4)) 42)) := h1.alloc h1.size _
    have hT2 := Lib.hid ((Own.made_totals W1 p.sizes.length (by omega)).from_ hB1.size)
    have hle := Lib.hid h1.size
    have hO0 := Lib.hid (hO.out w (Below.refl _ _))
    go_wp2_with fail
    clear hmk
    clear y0 y1 x0 x1 x2 x3 x4 x5 x6 hbz0 hbz1
    generalize W1.heap.size = g1 at hT2 hle ⊢
    generalize W1.alloc (.cells (madeCells zT (p.sizes.length * 4)) 42) = W2 at h2 hT2 ⊢
    go_loopw [28, 8] (fun i _ wr => ∃ q : Nat, q ≤ p.sizes.length ∧ i = .int .i64 q ∧ Own cTotal 4 42 wr w.heap.size (.slice (some ⟨g1, 0, none⟩) p.sizes.length p.sizes.length) (onsTo s p.sizes.length q) ∧ Below W0.heap.size W0 wr) (fun i _ _ => p.sizes.length - (intOf i).toNat)
    case atStart => exact ⟨0, Nat.zero_le _, rfl, by rw [onsTo_zero]; exact hT2.out, h2⟩
    case round =>
      clear h1 h2 hT2 hB1
      obtain ⟨q, hq, rfl, hT, h0⟩ := hrel
      have hT' := Lib.hid hT
      clear hT
      have hB := hb0.trans (h0.mono hb0.size)
      obtain ⟨⟨y0, y1⟩, x0, x1, x2, x3, x4, x5, x6, hbz0, hbz1⟩ := hK.out wr (h0)
      by_cases hlt : q < p.sizes.length
      · have hqi : (q : Int) < (p.sizes.length : Int) := by omega
        have hSE := Lib.hid (sumE_ok (shelfError_zero.2 ⟨hsn.out.shelf, isBin_iff.2 (by omega), isGood_iff.2 (by omega)⟩ : shelfError p s.on 0 q = 0))
        go_wp2_with fail
        clear y0 y1 x0 x1 x2 x3 x4 x5 x6 hbz0 hbz1
        refine (shelfSum _ _ _ p s.on q (hP'.out wr hB) (hN.out wr hB)).mono ?_
        rintro e W3 ⟨rfl, h3⟩
        rw [hSE.out]
        have hT3 := hT'.out.below h3
        have h03 := h0.trans (h3.mono h0.size)
        obtain ⟨hgb, ⟨cur, hblk⟩, c0, c1, c2, c3⟩ := totAt hT3 (i := q) (by rw [onsTo_length]; exact hlt) (onsTo_get _ _ _ _)
        rw [if_neg (by omega)] at c0
        have hf := hblk.frozen (q * 4)
        have hst := Own.store (i := q) (j := 0) hT3 (fun _ => rfl) (by rw [onsTo_length]; exact hlt) (by omega) (y := ⟨sumOf s.on q, 0, 0, 0⟩) (u := .int .i64 (sumOf s.on q)) (by rw [onsTo_get, if_neg (by omega)]; rfl)
        rw [Nat.add_zero, ← onsTo_succ s _ q hlt] at hst
        have h04 := h03.setCell (p := ⟨g1, q * 4, none⟩) hle.out (.int .i64 (sumOf s.on q))
        clear c1 c2 c3 hT3 hT'
        go_wp2_with (refine wpList_store_int rfl (.tmp 42) (.tmp 39) rfl rfl g1 (q * 4) _ _ rfl rfl c0 hf (fun w4 hw4 => ?_); refine Hid.out ?_)
        unfold Hid
        rw [hw4] at hst h04
        clear hw4 c0 hf hblk h03 h3
        go_wp2_with fail
        go_roundw
        case rel => exact ⟨q + 1, by omega, by go_num, hst.1, h04⟩
        case measure => simp [intOf]; omega
      · obtain rfl : q = p.sizes.length := by omega
        rw [onsTo_all] at hT'
        go_wp2_with fail
        clear y0 y1 x0 x1 x2 x3 x4 x5 x6 hbz0 hbz1
        generalize hn : p.sizes.length = n at hT' hle ⊢
        go_loopw [47, 9, 10, 11, 12, 13, 14, 15] (fun i _ _ _ _ _ _ _ wr => ∃ k : Nat, k ≤ s.orders.length ∧ i = .int .i64 k ∧ Own cTotal 4 42 wr w.heap.size (.slice (some ⟨g1, 0, none⟩) n n) (totsTo s n k 0) ∧ Below W0.heap.size W0 wr) (fun i _ _ _ _ _ _ _ _ => s.orders.length - (intOf i).toNat)
        case atStart => exact ⟨0, Nat.zero_le _, rfl, hT'.out, h0⟩
        case round =>
          clear hT' h0 hB
          obtain ⟨k, hk, rfl, hT, h0⟩ := hrel
          have hT' := Lib.hid hT
          clear hT
          have hB := hb0.trans (h0.mono hb0.size)
          obtain ⟨⟨y0, y1⟩, x0, x1, x2, x3, x4, x5, x6, hbz0, hbz1⟩ := hK.out wr (h0)
          by_cases hlt : k < s.orders.length
          · have hki : (k : Int) < (s.orders.length : Int) := by omega
            obtain ⟨A', c', hok1, hAb1, d0, d1, hsl⟩ := hO0.out.order hlt
            have d0' := (hB.cell (p := ⟨ablk A1, aoff A1 + k * 2, none⟩) hAb1).trans d0
            have d1' := (hB.cell (p := ⟨ablk A1, aoff A1 + k * 2 + 1, none⟩) hAb1).trans d1
            have hsl' := Lib.hid hsl
            obtain ⟨l1, l3⟩ := hsn.out.lines3 hlt
            change 1 ≤ (orderAt s.orders k).lines.length at l1
            change (orderAt s.orders k).lines.length ≤ 3 at l3
            have hbo := Lib.hid (Blk.new wr 73 #[.int .i64 (orderAt s.orders k).kind, .slice A' (orderAt s.orders k).lines.length c'])
            have h0o := h0.alloc h0.size (.cells #[.int .i64 (orderAt s.orders k).kind, .slice A' (orderAt s.orders k).lines.length c'] 73)
            have hTo := Lib.hid (hT'.out.alloc (.cells #[.int .i64 (orderAt s.orders k).kind, .slice A' (orderAt s.orders k).lines.length c'] 73))
            clear d0 d1 hsl
            go_wp2_with fail
            clear d0' d1' hok1 hT'
            clear y0 y1 x0 x1 x2 x3 x4 x5 x6 hbz0 hbz1
            generalize wr.heap.size = wo at hbo ⊢
            generalize wr.alloc (.cells #[.int .i64 (orderAt s.orders k).kind, .slice A' (orderAt s.orders k).lines.length c'] 73) = W3 at hbo h0o hTo ⊢
            go_loopw [55, 11, 12, 13, 14, 15] (fun i _ _ _ _ _ wr => ∃ m : Nat, m ≤ (orderAt s.orders k).lines.length ∧ i = .int .i64 m ∧ Own cTotal 4 42 wr w.heap.size (.slice (some ⟨g1, 0, none⟩) n n) (totsTo s n k m) ∧ Below W0.heap.size W0 wr ∧ Blk wr wo 73 [.int .i64 (orderAt s.orders k).kind, .slice A' (orderAt s.orders k).lines.length c']) (fun i _ _ _ _ _ _ => (orderAt s.orders k).lines.length - (intOf i).toNat)
            case atStart => exact ⟨0, Nat.zero_le _, rfl, hTo.out, h0o, hbo.out⟩
            case round =>
              clear hTo h0 h0o hB hbo
              obtain ⟨m, hm, rfl, hT, h0, hbo⟩ := hrel
              have hT' := Lib.hid hT
              have hbo' := Lib.hid hbo
              clear hT hbo
              have hB := hb0.trans (h0.mono hb0.size)
              obtain ⟨⟨y0, y1⟩, x0, x1, x2, x3, x4, x5, x6, hbz0, hbz1⟩ := hK.out wr (h0)
              by_cases hml : m < (orderAt s.orders k).lines.length
              · have hmi : (m : Int) < ((orderAt s.orders k).lines.length : Int) := by omega
                obtain ⟨hok2, hAb2, e0, e1, e2, e3⟩ := (hsl'.out.grow hB).at_.line hml
                have hl : lineAt (orderAt s.orders k).lines m = s.line k m := rfl
                rw [hl] at e0 e1 e2 e3
                clear hl
                obtain ⟨⟨g1a, g1b⟩, ⟨b1, b2⟩, ⟨b3, b4⟩, b5, b6⟩ := hsn.out.line hlt hml
                obtain ⟨b7, b8⟩ := kept_range hsn.out.holds k m
                obtain ⟨gd, hgd⟩ : ∃ gd : Nat, (s.line k m).good = gd := ⟨(s.line k m).good.toNat, by omega⟩
                have hgn : gd < n := by omega
                have hgi : (gd : Int) < (n : Int) := by omega
                rw [hgd] at e0
                have hTR := tot_range hsn.out gd hlt (k := m) hm
                have hke1 := Lib.hid (show (keptE s.holds k m).1 = kept s.holds k m by rw [keptE_ok hsn.out.holds])
                have hke2 := Lib.hid (show (keptE s.holds k m).2 = 0 by rw [keptE_ok hsn.out.holds])
                have hbl := Lib.hid (Blk.new wr 75 #[.int .i64 gd, .int .i64 (s.line k m).want, .int .i64 (s.line k m).got, .int .i64 (s.line k m).back])
                have h0l := h0.alloc h0.size (.cells #[.int .i64 gd, .int .i64 (s.line k m).want, .int .i64 (s.line k m).got, .int .i64 (s.line k m).back] 75)
                have hTl := Lib.hid (hT'.out.alloc (.cells #[.int .i64 gd, .int .i64 (s.line k m).want, .int .i64 (s.line k m).got, .int .i64 (s.line k m).back] 75))
                have hbol := Lib.hid (hbo'.out.alloc (.cells #[.int .i64 gd, .int .i64 (s.line k m).want, .int .i64 (s.line k m).got, .int .i64 (s.line k m).back] 75))
                have hBl := hb0.trans (h0l.mono hb0.size)
                have w1 := hbo'.out.cell (j := 1) rfl
                go_wp2_with fail
                clear y0 y1 x0 x1 x2 x3 x4 x5 x6 hbz0 hbz1
                clear e0 e1 e2 e3 w1
                refine (hdKept _ _ s.holds k m (hH.out _ hBl)).mono ?_
                rintro e W4 ⟨rfl, h4⟩
                rw [hke1.out, hke2.out]
                have h04 := h0l.trans (h4.mono h0l.size)
                have hbl4 := hbl.out.below h4 hbl.out.lt
                have hbo4 := hbol.out.below h4 hbol.out.lt
                have hT4 := hTl.out.below h4
                have hd1 : wr.heap.size ≠ g1 := fun e => by
                  obtain ⟨_, ⟨cur, hb⟩, _⟩ := totAt hT4 (i := gd) (by rw [totsTo_length]; exact hgn) rfl
                  rw [e] at hbl4
                  exact hbl4.ne hb (by decide) rfl
                have hd2 : wo ≠ g1 := fun e => by
                  obtain ⟨_, ⟨cur, hb⟩, _⟩ := totAt hT4 (i := gd) (by rw [totsTo_length]; exact hgn) rfl
                  rw [e] at hbo4
                  exact hbo4.ne hb (by decide) rfl
                have hd1' := Lib.hid hd1
                have hd2' := Lib.hid hd2
                clear hd1 hd2 hbl hbol hTl hT' hbo' h0 hB h0l hBl
                generalize wr.heap.size = wl at hbl4 hd1' ⊢
                obtain ⟨T0, hT0⟩ : ∃ T, tot s gd k m = T := ⟨_, rfl⟩
                rw [hT0] at hTR
                obtain ⟨hgb, ⟨cur, hblk⟩, c0, c1, c2, c3⟩ := totAt hT4 (i := gd) (by rw [totsTo_length]; exact hgn) ((totsTo_get _ _ _ _ _).trans hT0)
                have hf := hblk.frozen (gd * 4 + 1)
                have hwa : IntKind.i64.wrap (T0.held + kept s.holds k m) = T0.held + kept s.holds k m := IntWalk.i64_in _ (by omega)
                have hst := Own.store (i := gd) (j := 1) hT4 (fun _ => rfl) (by rw [totsTo_length]; exact hgn) (by omega) (y := ⟨T0.on, T0.held + kept s.holds k m, T0.back, T0.got⟩) (u := .int .i64 (T0.held + kept s.holds k m)) (by rw [totsTo_get, hT0]; rfl)
                have h05 := h04.setCell (p := ⟨g1, gd * 4 + 1, none⟩) hle.out (.int .i64 (T0.held + kept s.holds k m))
                have hl2 : (totsTo s n k m).length = n := totsTo_length _ _ _ _
                go_wp2_with (refine wpList_store_int rfl (.tmp 79) (.tmp 77) rfl rfl g1 (gd * 4 + 1) _ _ rfl rfl c1 hf (fun w5 hw5 => ?_); refine Hid.out ?_)
                unfold Hid
                rw [hw5] at hst h05
                have hbl5 := hbl4.grown hst.2 (by intro e; injection e with e; exact hd1'.out e)
                have hbo5 := hbo4.grown hst.2 (by intro e; injection e with e; exact hd2'.out e)
                clear hw5 c0 c1 c2 c3 hf hblk h04 h4 hwa hbl4 hbo4 hT4
                obtain ⟨_, ⟨cur, hblk⟩, c0, c1, c2, c3⟩ := totAt hst.1 (i := gd) (by rw [List.length_set, hl2]; exact hgn) (List.getElem_set_self _)
                have hf : w5.drew.frozen? ⟨g1, gd * 4 + 2, none⟩ = false := hblk.frozen (gd * 4 + 2)
                have hwa : IntKind.i64.wrap (T0.back + (s.line k m).back) = T0.back + (s.line k m).back := IntWalk.i64_in _ (by omega)
                have hst2 := Own.store (i := gd) (j := 2) hst.1.drew (fun _ => rfl) (by rw [List.length_set, hl2]; exact hgn) (by omega) (y := ⟨T0.on, T0.held + kept s.holds k m, T0.back + (s.line k m).back, T0.got⟩) (u := .int .i64 (T0.back + (s.line k m).back)) (by rw [List.getElem_set_self]; rfl)
                have h06 := h05.drew.setCell (p := ⟨g1, gd * 4 + 2, none⟩) hle.out (.int .i64 (T0.back + (s.line k m).back))
                have l3' := hbl5.cell (j := 3) rfl
                have l2' := hbl5.cell (j := 2) rfl
                go_wp2_with fail
                go_still_tail 9, (by kernel_rfl)
                change wpList _ _ _ _ _ w5.drew
                refine wpList_store_int rfl (.tmp 88) (.tmp 86) rfl rfl g1 (gd * 4 + 2) _ _ rfl rfl c2 hf (fun w6 hw6 => ?_)
                rw [hw6] at hst2 h06
                refine wpList_nil ?_
                have hbl6 := Blk.grown (w := w5.drew) hbl5 hst2.2 (by intro e; injection e with e; exact hd1'.out e)
                have hbo6 := Blk.grown (w := w5.drew) hbo5 hst2.2 (by intro e; injection e with e; exact hd2'.out e)
                clear hw6 c0 c1 c2 c3 hf hblk hwa hbl5 hbo5 h05 l3' l2'
                rw [List.set_set] at hst2
                obtain ⟨_, ⟨cur, hblk⟩, c0, c1, c2, c3⟩ := totAt hst2.1 (i := gd) (by rw [List.length_set, hl2]; exact hgn) (List.getElem_set_self _)
                have hf : w6.drew.frozen? ⟨g1, gd * 4 + 3, none⟩ = false := hblk.frozen (gd * 4 + 3)
                have hwa : IntKind.i64.wrap (T0.got + (s.line k m).got) = T0.got + (s.line k m).got := IntWalk.i64_in _ (by omega)
                have hst3 := Own.store (i := gd) (j := 3) hst2.1.drew (fun _ => rfl) (by rw [List.length_set, hl2]; exact hgn) (by omega) (y := ⟨T0.on, T0.held + kept s.holds k m, T0.back + (s.line k m).back, T0.got + (s.line k m).got⟩) (u := .int .i64 (T0.got + (s.line k m).got)) (by rw [List.getElem_set_self]; rfl)
                have h07 := h06.drew.setCell (p := ⟨g1, gd * 4 + 3, none⟩) hle.out (.int .i64 (T0.got + (s.line k m).got))
                have l2' := hbl6.cell (j := 2) rfl
                clear hst
                go_wp2_with fail
                go_still_tail 9, (by kernel_rfl)
                change wpList _ _ _ _ _ w6.drew
                refine wpList_store_int rfl (.tmp 97) (.tmp 95) rfl rfl g1 (gd * 4 + 3) _ _ rfl rfl c3 hf (fun w7 hw7 => ?_)
                rw [hw7] at hst3 h07
                refine wpList_nil ?_
                have hbo7 := Blk.grown (w := w6.drew) hbo6 hst3.2 (by intro e; injection e with e; exact hd2'.out e)
                rw [List.set_set] at hst3
                have hfin := Lib.hid (show totsTo s n k (m + 1) = (totsTo s n k m).set gd ⟨T0.on, T0.held + kept s.holds k m, T0.back + (s.line k m).back, T0.got + (s.line k m).got⟩ by rw [← hT0]; exact totsTo_line s n k m hgd hgn)
                clear hw7 c0 c1 c2 c3 hf hblk hwa hbl6 hbo6 h06 l2' hst2
                go_wp2_with fail
                go_roundw
                case rel => exact ⟨m + 1, by omega, by go_num, by rw [hfin.out]; exact hst3.1, h07, hbo7⟩
                case measure => simp [intOf]; omega
              · obtain rfl : m = (orderAt s.orders k).lines.length := by omega
                go_wp2_with fail
                go_roundw
                case rel => exact ⟨k + 1, by omega, by go_num, by rw [totsTo_order]; exact hT'.out, h0⟩
                case measure => simp [intOf]; omega
          · obtain rfl : k = s.orders.length := by omega
            go_wp2_with fail
            go_ret2
            exact ⟨.slice (some ⟨g1, 0, none⟩) n n, by rw [hc'.out]; rfl, by rw [hE.out]; unfold totalsF; rw [hn]; exact hT'.out, hB⟩
  · have hne : (checkState p s != 0) = true := by simpa using hc
    have hc' := Lib.hid hc
    clear hc
    go_wp2_with fail
    go_ret2
    exact ⟨.slice none 0 0, rfl, by rw [totalsE_bad hc'.out]; exact Own.nil, hB1⟩

set_option maxHeartbeats 4000000 in
theorem bkOpen (w : World) (v vs : Value) (p : Plan) (s : State) (hp : PlanV w w.heap.size v p) (hv : StateV w w.heap.size vs s) :
    Calls Try.prog 15 #[v, vs] w fun e w' => e = .returned (.tuple #[.int .i64 (openE p s).1, .int .i64 (openE p s).2]) ∧ Below w.heap.size w w' := by
  obtain ⟨Ab, cb, As, cs, rfl, hP', hBn, hSz, hlb, hls⟩ := openPl hp
  obtain ⟨A0, c0, A1, c1, A2, c2, A3, c3, A4, c4, A5, c5, A6, c6, rfl, hV, hN, hO, hH, hM, hI, hU, hX, hl0, hl1, hl2, hl3, hl4, hl5, hl6⟩ := openOne hv
  go_enter Try.func15, Try.ntmps15
  go_wp2_with fail
  obtain ⟨W0, hW0, hb0, hsz0, hsz1, hsE, hK⟩ := boxesTwo w p s Ab cb As cs A0 c0 A1 c1 A2 c2 A3 c3 A4 c4 A5 c5 A6 c6
  rw [hW0]
  clear hW0
  obtain ⟨⟨y0, y1⟩, x0, x1, x2, x3, x4, x5, x6, hbz0, hbz1⟩ := hK.out W0 (Below.refl W0.heap.size W0)
  go_wp2_with fail
  clear y0 y1 x0 x1 x2 x3 x4 x5 x6 hbz0 hbz1
  refine (sCheck _ _ _ p s (hP'.out _ hb0) (hV.out _ hb0)).mono ?_
  rintro e W1 ⟨rfl, h1⟩
  have hB1 := hb0.trans (h1.mono hb0.size)
  obtain ⟨⟨y0, y1⟩, x0, x1, x2, x3, x4, x5, x6, hbz0, hbz1⟩ := hK.out W1 (h1)
  by_cases hc : checkState p s = 0
  · have hE := Lib.hid (openE_ok hc)
    have h4 := (checkState_zero.1 hc).1.orders4
    rw [hc]
    clear hc
    go_wp2_with fail
    clear y0 y1 x0 x1 x2 x3 x4 x5 x6 hbz0 hbz1
    go_loopw [19, 7, 9] (fun i n _ wr => ∃ k : Nat, k ≤ s.orders.length ∧ i = .int .i64 k ∧ n = .int .i64 (openTo s k) ∧ Below W0.heap.size W0 wr) (fun i _ _ _ => s.orders.length - (intOf i).toNat)
    case atStart => exact ⟨0, Nat.zero_le _, rfl, rfl, h1⟩
    case round =>
      clear h1 hB1
      obtain ⟨k, hk, rfl, rfl, h0⟩ := hrel
      have hB := hb0.trans (h0.mono hb0.size)
      obtain ⟨⟨y0, y1⟩, x0, x1, x2, x3, x4, x5, x6, hbz0, hbz1⟩ := hK.out wr (h0)
      by_cases hlt : k < s.orders.length
      · have hki : (k : Int) < (s.orders.length : Int) := by omega
        obtain ⟨A', c', hok1, hAb1, d0, d1, hsl⟩ := (hO.out wr hB).order hlt
        have h0o := h0.alloc h0.size (.cells #[.int .i64 (orderAt s.orders k).kind, .slice A' (orderAt s.orders k).lines.length c'] 73)
        have hr := openTo_range s k
        have hs' := openTo_succ s k
        by_cases hkd : (orderAt s.orders k).kind = 2
        · have hq : ((orderAt s.orders k).kind != 2) = false := by simpa using hkd
          rw [if_pos hkd, Int.add_zero] at hs'
          have hs2 := Lib.hid hs'
          clear hkd hs'
          go_wp2_with fail
          go_roundw
          case rel => exact ⟨k + 1, by omega, by go_num, by rw [hs2.out], h0o⟩
          case measure => simp [intOf]; omega
        · have hq : ((orderAt s.orders k).kind != 2) = true := by simpa using hkd
          rw [if_neg hkd] at hs'
          have hs2 := Lib.hid hs'
          have hw1 : IntKind.i64.wrap (openTo s k + 1) = openTo s k + 1 := IntWalk.i64_in _ (by omega)
          clear hkd hs'
          go_wp2_with fail
          go_roundw
          case rel => exact ⟨k + 1, by omega, by go_num, by rw [hs2.out], h0o⟩
          case measure => simp [intOf]; omega
      · obtain rfl : k = s.orders.length := by omega
        go_wp2_with fail
        go_ret2
        exact ⟨by rw [hE.out]; rfl, hB⟩
  · have hne : (checkState p s != 0) = true := by simpa using hc
    have hE := Lib.hid (openE_bad hc)
    clear hc
    go_wp2_with fail
    go_ret2
    exact ⟨by rw [hE.out]; rfl, hB1⟩
end Wh
