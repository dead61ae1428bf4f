/- Texts of the claim, joined: BookB, StateN, RecvL, BookC, AllocL, LexFast. -/
import Derived.Laws.MakeOwn
import Derived.StillTailTactics
import Derived.Still
import Derived.BigQuiet
import Derived.Test.YtfhfkijmebhgmaaGreatQ32
import Derived.Test.YtfhfkijmebhgmaaGreatQ12
import Derived.Test.YtfhfkijmebhgmaaGreatQ13
import Derived.Test.YtfhfkijmebhgmaaGreatQ10
import Derived.Test.YtfhfkijmebhgmaaGreatQ06
import Derived.Test.YtfhfkijmebhgmaaGreatQ07
import Derived.Test.YtfhfkijmebhgmaaGreatQ08
import Derived.Test.YtfhfkijmebhgmaaGreatQ09
import Derived.Test.YtfhfkijmebhgmaaGreatQ19
import Derived.Test.YtfhfkijmebhgmaaGreatQ15
import Derived.Test.YtfhfkijmebhgmaaGreatQ17
import Derived.Test.YtfhfkijmebhgmaaGreatQ16
import Derived.Test.YtfhfkijmebhgmaaGreatQ03
import Derived.Test.YtfhfkijmebhgmaaGreatQ20
namespace Wh
open Go Go.RowKit Go.Shelf Go.Proofs
attribute [local go_sem] run_indexAt_letter

theorem infoTotal : Elem Tryz.prog 60 (.agg #[.int .i64 0, .int .i64 0, .int .i64 0, .int .i64 0]) 4 32 := elem_of (by kernel_rfl)
def zT : Array Value := #[.int .i64 0, .int .i64 0, .int .i64 0, .int .i64 0]
theorem made_totals (n : Nat) : (madeCells zT (n * 4)).toList = (List.replicate n dTotal).flatMap cTotal := by
  have h1 : (madeCells zT (n * 4)).toList = List.replicate (n * 4) (.int .i64 0) := by
    apply List.ext_getElem
    · simp [madeCells]
    · intro i h1 h2
      have : i % 4 = 0 ∨ i % 4 = 1 ∨ i % 4 = 2 ∨ i % 4 = 3 := by omega
      rcases this with h | h | h | h <;> simp [madeCells, zT, h]
  have h2 : (List.replicate n dTotal).flatMap cTotal = List.replicate (n * 4) (.int .i64 0) := by
    induction n with
    | zero => rfl
    | succ n ih =>
      rw [List.replicate_succ, List.flatMap_cons, ih (by
        apply List.ext_getElem
        · simp [madeCells]
        · intro i h1 h2
          have : i % 4 = 0 ∨ i % 4 = 1 ∨ i % 4 = 2 ∨ i % 4 = 3 := by omega
          rcases this with h | h | h | h <;> simp [madeCells, zT, h]), show (n + 1) * 4 = 4 + n * 4 by omega, ← List.replicate_append_replicate]
      rfl
  rw [h1, h2]
theorem run_make_totals (n : Nat) (hn : n ≤ 1000) (w : World) : (Instr.makeSlice 56 (.int .i64 (n : Int)) (.int .i64 (n : Int))).run Tryz.prog w = .ok (.slice (some ⟨w.heap.size, 0, none⟩) n n) (w.alloc (.cells (madeCells zT (n * 4)) 60)) := by
  obtain ⟨i, hi, hz, hs, hb⟩ := infoTotal
  have := run_make (P := Tryz.prog) w 56 60 i _ Tryz.underlying56 hi hz .i64 .i64 n n (by omega) (Int.le_refl _) (by rw [hb]; omega) (by omega)
  simp only [Int.toNat_natCast, hs] at this
  exact this
theorem Own.made_totals (w : World) (n : Nat) (hn : n ≤ 1000) : Own cTotal 4 60 (w.alloc (.cells (madeCells zT (n * 4)) 60)) w.heap.size (.slice (some ⟨w.heap.size, 0, none⟩) n n) (List.replicate n dTotal) := by
  have := Own.lit (base := w.heap.size) (enc := cTotal) (size := 4) w 60 (madeCells zT (n * 4)) (List.replicate n dTotal) (Nat.le_refl _) (by simp; omega) (fun _ => rfl) (Wh.made_totals n)
  simpa using this
theorem totAt {w : World} {base g n c : Nat} {l : List Total} (h : Own cTotal 4 60 w base (.slice (some ⟨g, 0, none⟩) n c) l) {i : Nat} (hi : i < l.length) {x : Total} (hx : l[i] = x) : base ≤ g ∧ (∃ cur, Blk w g 60 cur) ∧
    w.cell? ⟨g, i * 4, none⟩ = some (.int .i64 x.on) ∧ w.cell? ⟨g, i * 4 + 1, none⟩ = some (.int .i64 x.held) ∧ w.cell? ⟨g, i * 4 + 2, none⟩ = some (.int .i64 x.back) ∧ w.cell? ⟨g, i * 4 + 3, none⟩ = some (.int .i64 x.got) := by
  obtain ⟨g', c', cur, e1, h2, h3, h4⟩ := h.at (fun _ => rfl) hi
  injection e1 with e1
  injection e1 with e1
  injection e1 with e1
  subst e1
  rw [hx] at h4
  exact ⟨h2, ⟨cur, h3⟩, h4 0 _ rfl, h4 1 _ rfl, h4 2 _ rfl, h4 3 _ rfl⟩

set_option maxHeartbeats 8000000 in
set_option maxRecDepth 100000 in
theorem bkTotals (w : World) (v vs : Value) (p : Plan) (s : State) (hp : PlanV w w.heap.size v p) (hv : StateV w w.heap.size vs s) :
    Calls Tryz.prog 27 #[v, vs] w fun e w' => ∃ u, e = .returned (.tuple #[u, .int .i64 (checkState p s)]) ∧ Own cTotal 4 60 w' w.heap.size u (totalsE p s) ∧ Below w.heap.size w w' := by
  obtain ⟨Ab, cb, As, cs, rfl, hP', hBn, hSz, hlb, hls⟩ := openPl hp
  obtain ⟨A0, c0, A1, c1, A2, c2, A3, c3, A4, c4, A5, c5, A6, c6, rfl, hV, hN, hO, hH, hM, hI, hU, hX, hl0, hl1, hl2, hl3, hl4, hl5, hl6⟩ := openOne hv
  go_enter Tryz.func27, Tryz.ntmps27
  go_wp2_with fail
  obtain ⟨W0, hW0, hb0, hsz0, hsz1, hsE, hK⟩ := boxesTwo w p s Ab cb As cs A0 c0 A1 c1 A2 c2 A3 c3 A4 c4 A5 c5 A6 c6
  rw [hW0]
  clear hW0
  obtain ⟨⟨y0, y1⟩, x0, x1, x2, x3, x4, x5, x6, hbz0, hbz1⟩ := hK.out W0 (Below.refl W0.heap.size W0)
  go_wp2_with fail
  clear y0 y1 x0 x1 x2 x3 x4 x5 x6 hbz0 hbz1
  refine (sCheck _ _ _ p s (hP'.out _ hb0) (hV.out _ hb0)).mono ?_
  rintro e W1 ⟨rfl, h1⟩
  have hB1 := hb0.trans (h1.mono hb0.size)
  obtain ⟨⟨y0, y1⟩, x0, x1, x2, x3, x4, x5, x6, hbz0, hbz1⟩ := hK.out W1 (h1)
  by_cases hc : checkState p s = 0
  · have hsn := Lib.hid (checkState_zero.1 hc).1
    have hE := Lib.hid (totalsE_ok hc)
    have hc' := Lib.hid hc
    rw [hc]
    clear hc
    have hcnt := hsn.out.counts
    have hmk := run_make_totals p.sizes.length (by omega)
    have h2 : Below W0.heap.size W0 (W1.alloc (.cells (madeCells zT (p.sizes.length * 4)) 60)) := h1.alloc h1.size _
    have hT2 := Lib.hid ((Own.made_totals W1 p.sizes.length (by omega)).from_ hB1.size)
    have hle := Lib.hid h1.size
    have hO0 := Lib.hid (hO.out w (Below.refl _ _))
    go_wp2_with fail
    clear hmk
    clear y0 y1 x0 x1 x2 x3 x4 x5 x6 hbz0 hbz1
    generalize W1.heap.size = g1 at hT2 hle ⊢
    generalize W1.alloc (.cells (madeCells zT (p.sizes.length * 4)) 60) = W2 at h2 hT2 ⊢
    go_loopw [28, 8] (fun i _ wr => ∃ q : Nat, q ≤ p.sizes.length ∧ i = .int .i64 q ∧ Own cTotal 4 60 wr w.heap.size (.slice (some ⟨g1, 0, none⟩) p.sizes.length p.sizes.length) (onsTo s p.sizes.length q) ∧ Below W0.heap.size W0 wr) (fun i _ _ => p.sizes.length - (RowKit.intOf i).toNat)
    case atStart => exact ⟨0, Nat.zero_le _, rfl, by rw [onsTo_zero]; exact hT2.out, h2⟩
    case round =>
      clear h1 h2 hT2 hB1
      obtain ⟨q, hq, rfl, hT, h0⟩ := hrel
      have hT' := Lib.hid hT
      clear hT
      have hB := hb0.trans (h0.mono hb0.size)
      obtain ⟨⟨y0, y1⟩, x0, x1, x2, x3, x4, x5, x6, hbz0, hbz1⟩ := hK.out wr (h0)
      by_cases hlt : q < p.sizes.length
      · have hqi : (q : Int) < (p.sizes.length : Int) := by omega
        have hSE := Lib.hid (sumE_ok (shelfError_zero.2 ⟨hsn.out.shelf, isBin_iff.2 (by omega), isGood_iff.2 (by omega)⟩ : shelfError p s.on 0 q = 0))
        go_wp2_with fail
        clear y0 y1 x0 x1 x2 x3 x4 x5 x6 hbz0 hbz1
        refine (shelfSum _ _ _ p s.on q (hP'.out wr hB) (hN.out wr hB)).mono ?_
        rintro e W3 ⟨rfl, h3⟩
        rw [hSE.out]
        have hT3 := hT'.out.below h3
        have h03 := h0.trans (h3.mono h0.size)
        obtain ⟨hgb, ⟨cur, hblk⟩, c0, c1, c2, c3⟩ := totAt hT3 (i := q) (by rw [onsTo_length]; exact hlt) (onsTo_get _ _ _ _)
        rw [if_neg (by omega)] at c0
        have hf := hblk.frozen (q * 4)
        have hst := Own.store (i := q) (j := 0) hT3 (fun _ => rfl) (by rw [onsTo_length]; exact hlt) (by omega) (y := ⟨sumOf s.on q, 0, 0, 0⟩) (u := .int .i64 (sumOf s.on q)) (by rw [onsTo_get, if_neg (by omega)]; rfl)
        rw [Nat.add_zero, ← onsTo_succ s _ q hlt] at hst
        have h04 := h03.setCell (p := ⟨g1, q * 4, none⟩) hle.out (.int .i64 (sumOf s.on q))
        clear c1 c2 c3 hT3 hT'
        go_wp2_with (refine wpList_store_int rfl (.tmp 42) (.tmp 39) rfl rfl g1 (q * 4) _ _ rfl rfl c0 hf (fun w4 hw4 => ?_); refine Hid.out ?_)
        unfold Hid
        rw [hw4] at hst h04
        clear hw4 c0 hf hblk h03 h3
        go_wp2_with fail
        go_roundw
        case rel => exact ⟨q + 1, by omega, by go_num, hst.1, h04⟩
        case measure => simp [RowKit.intOf]; omega
      · obtain rfl : q = p.sizes.length := by omega
        rw [onsTo_all] at hT'
        go_wp2_with fail
        clear y0 y1 x0 x1 x2 x3 x4 x5 x6 hbz0 hbz1
        generalize hn : p.sizes.length = n at hT' hle ⊢
        go_loopw [47, 9, 10, 11, 12, 13, 14, 15] (fun i _ _ _ _ _ _ _ wr => ∃ k : Nat, k ≤ s.orders.length ∧ i = .int .i64 k ∧ Own cTotal 4 60 wr w.heap.size (.slice (some ⟨g1, 0, none⟩) n n) (totsTo s n k 0) ∧ Below W0.heap.size W0 wr) (fun i _ _ _ _ _ _ _ _ => s.orders.length - (RowKit.intOf i).toNat)
        case atStart => exact ⟨0, Nat.zero_le _, rfl, hT'.out, h0⟩
        case round =>
          clear hT' h0 hB
          obtain ⟨k, hk, rfl, hT, h0⟩ := hrel
          have hT' := Lib.hid hT
          clear hT
          have hB := hb0.trans (h0.mono hb0.size)
          obtain ⟨⟨y0, y1⟩, x0, x1, x2, x3, x4, x5, x6, hbz0, hbz1⟩ := hK.out wr (h0)
          by_cases hlt : k < s.orders.length
          · have hki : (k : Int) < (s.orders.length : Int) := by omega
            obtain ⟨A', c', hok1, hAb1, d0, d1, hsl⟩ := hO0.out.order hlt
            have d0' := (hB.cell (p := ⟨ablk A1, aoff A1 + k * 2, none⟩) hAb1).trans d0
            have d1' := (hB.cell (p := ⟨ablk A1, aoff A1 + k * 2 + 1, none⟩) hAb1).trans d1
            have hsl' := Lib.hid hsl
            obtain ⟨l1, l3⟩ := hsn.out.lines3 hlt
            change 1 ≤ (orderAt s.orders k).lines.length at l1
            change (orderAt s.orders k).lines.length ≤ 3 at l3
            have hbo := Lib.hid (Blk.new wr 42 #[.int .i64 (orderAt s.orders k).kind, .slice A' (orderAt s.orders k).lines.length c'])
            have h0o := h0.alloc h0.size (.cells #[.int .i64 (orderAt s.orders k).kind, .slice A' (orderAt s.orders k).lines.length c'] 42)
            have hTo := Lib.hid (hT'.out.alloc (.cells #[.int .i64 (orderAt s.orders k).kind, .slice A' (orderAt s.orders k).lines.length c'] 42))
            clear d0 d1 hsl
            go_wp2_with fail
            clear d0' d1' hok1 hT'
            clear y0 y1 x0 x1 x2 x3 x4 x5 x6 hbz0 hbz1
            generalize wr.heap.size = wo at hbo ⊢
            generalize wr.alloc (.cells #[.int .i64 (orderAt s.orders k).kind, .slice A' (orderAt s.orders k).lines.length c'] 42) = W3 at hbo h0o hTo ⊢
            go_loopw [55, 11, 12, 13, 14, 15] (fun i _ _ _ _ _ wr => ∃ m : Nat, m ≤ (orderAt s.orders k).lines.length ∧ i = .int .i64 m ∧ Own cTotal 4 60 wr w.heap.size (.slice (some ⟨g1, 0, none⟩) n n) (totsTo s n k m) ∧ Below W0.heap.size W0 wr ∧ Blk wr wo 42 [.int .i64 (orderAt s.orders k).kind, .slice A' (orderAt s.orders k).lines.length c']) (fun i _ _ _ _ _ _ => (orderAt s.orders k).lines.length - (RowKit.intOf i).toNat)
            case atStart => exact ⟨0, Nat.zero_le _, rfl, hTo.out, h0o, hbo.out⟩
            case round =>
              clear hTo h0 h0o hB hbo
              obtain ⟨m, hm, rfl, hT, h0, hbo⟩ := hrel
              have hT' := Lib.hid hT
              have hbo' := Lib.hid hbo
              clear hT hbo
              have hB := hb0.trans (h0.mono hb0.size)
              obtain ⟨⟨y0, y1⟩, x0, x1, x2, x3, x4, x5, x6, hbz0, hbz1⟩ := hK.out wr (h0)
              by_cases hml : m < (orderAt s.orders k).lines.length
              · have hmi : (m : Int) < ((orderAt s.orders k).lines.length : Int) := by omega
                obtain ⟨hok2, hAb2, e0, e1, e2, e3⟩ := (hsl'.out.grow hB).at_.line hml
                have hl : lineAt (orderAt s.orders k).lines m = s.line k m := rfl
                rw [hl] at e0 e1 e2 e3
                clear hl
                obtain ⟨⟨g1a, g1b⟩, ⟨b1, b2⟩, ⟨b3, b4⟩, b5, b6⟩ := hsn.out.line hlt hml
                obtain ⟨b7, b8⟩ := kept_range hsn.out.holds k m
                obtain ⟨gd, hgd⟩ : ∃ gd : Nat, (s.line k m).good = gd := ⟨(s.line k m).good.toNat, by omega⟩
                have hgn : gd < n := by omega
                have hgi : (gd : Int) < (n : Int) := by omega
                rw [hgd] at e0
                have hTR := tot_range hsn.out gd hlt (k := m) hm
                have hke1 := Lib.hid (show (keptE s.holds k m).1 = kept s.holds k m by rw [keptE_ok hsn.out.holds])
                have hke2 := Lib.hid (show (keptE s.holds k m).2 = 0 by rw [keptE_ok hsn.out.holds])
                have hbl := Lib.hid (Blk.new wr 44 #[.int .i64 gd, .int .i64 (s.line k m).want, .int .i64 (s.line k m).got, .int .i64 (s.line k m).back])
                have h0l := h0.alloc h0.size (.cells #[.int .i64 gd, .int .i64 (s.line k m).want, .int .i64 (s.line k m).got, .int .i64 (s.line k m).back] 44)
                have hTl := Lib.hid (hT'.out.alloc (.cells #[.int .i64 gd, .int .i64 (s.line k m).want, .int .i64 (s.line k m).got, .int .i64 (s.line k m).back] 44))
                have hbol := Lib.hid (hbo'.out.alloc (.cells #[.int .i64 gd, .int .i64 (s.line k m).want, .int .i64 (s.line k m).got, .int .i64 (s.line k m).back] 44))
                have hBl := hb0.trans (h0l.mono hb0.size)
                have w1 := hbo'.out.cell (j := 1) rfl
                go_wp2_with fail
                clear y0 y1 x0 x1 x2 x3 x4 x5 x6 hbz0 hbz1
                clear e0 e1 e2 e3 w1
                refine (hdKept _ _ s.holds k m (hH.out _ hBl)).mono ?_
                rintro e W4 ⟨rfl, h4⟩
                rw [hke1.out, hke2.out]
                have h04 := h0l.trans (h4.mono h0l.size)
                have hbl4 := hbl.out.below h4 hbl.out.lt
                have hbo4 := hbol.out.below h4 hbol.out.lt
                have hT4 := hTl.out.below h4
                have hd1 : wr.heap.size ≠ g1 := fun e => by
                  obtain ⟨_, ⟨cur, hb⟩, _⟩ := totAt hT4 (i := gd) (by rw [totsTo_length]; exact hgn) rfl
                  rw [e] at hbl4
                  exact hbl4.ne hb (by decide) rfl
                have hd2 : wo ≠ g1 := fun e => by
                  obtain ⟨_, ⟨cur, hb⟩, _⟩ := totAt hT4 (i := gd) (by rw [totsTo_length]; exact hgn) rfl
                  rw [e] at hbo4
                  exact hbo4.ne hb (by decide) rfl
                have hd1' := Lib.hid hd1
                have hd2' := Lib.hid hd2
                clear hd1 hd2 hbl hbol hTl hT' hbo' h0 hB h0l hBl
                generalize wr.heap.size = wl at hbl4 hd1' ⊢
                obtain ⟨T0, hT0⟩ : ∃ T, tot s gd k m = T := ⟨_, rfl⟩
                rw [hT0] at hTR
                obtain ⟨hgb, ⟨cur, hblk⟩, c0, c1, c2, c3⟩ := totAt hT4 (i := gd) (by rw [totsTo_length]; exact hgn) ((totsTo_get _ _ _ _ _).trans hT0)
                have hf := hblk.frozen (gd * 4 + 1)
                have hwa : IntKind.i64.wrap (T0.held + kept s.holds k m) = T0.held + kept s.holds k m := IntWalk.i64_in _ (by omega)
                have hst := Own.store (i := gd) (j := 1) hT4 (fun _ => rfl) (by rw [totsTo_length]; exact hgn) (by omega) (y := ⟨T0.on, T0.held + kept s.holds k m, T0.back, T0.got⟩) (u := .int .i64 (T0.held + kept s.holds k m)) (by rw [totsTo_get, hT0]; rfl)
                have h05 := h04.setCell (p := ⟨g1, gd * 4 + 1, none⟩) hle.out (.int .i64 (T0.held + kept s.holds k m))
                have hl2 : (totsTo s n k m).length = n := totsTo_length _ _ _ _
                go_wp2_with (refine wpList_store_int rfl (.tmp 79) (.tmp 77) rfl rfl g1 (gd * 4 + 1) _ _ rfl rfl c1 hf (fun w5 hw5 => ?_); refine Hid.out ?_)
                unfold Hid
                rw [hw5] at hst h05
                have hbl5 := hbl4.grown hst.2 (by intro e; injection e with e; exact hd1'.out e)
                have hbo5 := hbo4.grown hst.2 (by intro e; injection e with e; exact hd2'.out e)
                clear hw5 c0 c1 c2 c3 hf hblk h04 h4 hwa hbl4 hbo4 hT4
                obtain ⟨_, ⟨cur, hblk⟩, c0, c1, c2, c3⟩ := totAt hst.1 (i := gd) (by rw [List.length_set, hl2]; exact hgn) (List.getElem_set_self _)
                have hf : w5.drew.frozen? ⟨g1, gd * 4 + 2, none⟩ = false := hblk.frozen (gd * 4 + 2)
                have hwa : IntKind.i64.wrap (T0.back + (s.line k m).back) = T0.back + (s.line k m).back := IntWalk.i64_in _ (by omega)
                have hst2 := Own.store (i := gd) (j := 2) hst.1.drew (fun _ => rfl) (by rw [List.length_set, hl2]; exact hgn) (by omega) (y := ⟨T0.on, T0.held + kept s.holds k m, T0.back + (s.line k m).back, T0.got⟩) (u := .int .i64 (T0.back + (s.line k m).back)) (by rw [List.getElem_set_self]; rfl)
                have h06 := h05.drew.setCell (p := ⟨g1, gd * 4 + 2, none⟩) hle.out (.int .i64 (T0.back + (s.line k m).back))
                have l3' := hbl5.cell (j := 3) rfl
                have l2' := hbl5.cell (j := 2) rfl
                go_wp2_with fail
                go_still_tail 9, (by kernel_rfl)
                change wpList _ _ _ _ _ w5.drew
                refine wpList_store_int rfl (.tmp 88) (.tmp 86) rfl rfl g1 (gd * 4 + 2) _ _ rfl rfl c2 hf (fun w6 hw6 => ?_)
                rw [hw6] at hst2 h06
                refine wpList_nil ?_
                have hbl6 := Blk.grown (w := w5.drew) hbl5 hst2.2 (by intro e; injection e with e; exact hd1'.out e)
                have hbo6 := Blk.grown (w := w5.drew) hbo5 hst2.2 (by intro e; injection e with e; exact hd2'.out e)
                clear hw6 c0 c1 c2 c3 hf hblk hwa hbl5 hbo5 h05 l3' l2'
                rw [List.set_set] at hst2
                obtain ⟨_, ⟨cur, hblk⟩, c0, c1, c2, c3⟩ := totAt hst2.1 (i := gd) (by rw [List.length_set, hl2]; exact hgn) (List.getElem_set_self _)
                have hf : w6.drew.frozen? ⟨g1, gd * 4 + 3, none⟩ = false := hblk.frozen (gd * 4 + 3)
                have hwa : IntKind.i64.wrap (T0.got + (s.line k m).got) = T0.got + (s.line k m).got := IntWalk.i64_in _ (by omega)
                have hst3 := Own.store (i := gd) (j := 3) hst2.1.drew (fun _ => rfl) (by rw [List.length_set, hl2]; exact hgn) (by omega) (y := ⟨T0.on, T0.held + kept s.holds k m, T0.back + (s.line k m).back, T0.got + (s.line k m).got⟩) (u := .int .i64 (T0.got + (s.line k m).got)) (by rw [List.getElem_set_self]; rfl)
                have h07 := h06.drew.setCell (p := ⟨g1, gd * 4 + 3, none⟩) hle.out (.int .i64 (T0.got + (s.line k m).got))
                have l2' := hbl6.cell (j := 2) rfl
                clear hst
                go_wp2_with fail
                go_still_tail 9, (by kernel_rfl)
                change wpList _ _ _ _ _ w6.drew
                refine wpList_store_int rfl (.tmp 97) (.tmp 95) rfl rfl g1 (gd * 4 + 3) _ _ rfl rfl c3 hf (fun w7 hw7 => ?_)
                rw [hw7] at hst3 h07
                refine wpList_nil ?_
                have hbo7 := Blk.grown (w := w6.drew) hbo6 hst3.2 (by intro e; injection e with e; exact hd2'.out e)
                rw [List.set_set] at hst3
                have hfin := Lib.hid (show totsTo s n k (m + 1) = (totsTo s n k m).set gd ⟨T0.on, T0.held + kept s.holds k m, T0.back + (s.line k m).back, T0.got + (s.line k m).got⟩ by rw [← hT0]; exact totsTo_line s n k m hgd hgn)
                clear hw7 c0 c1 c2 c3 hf hblk hwa hbl6 hbo6 h06 l2' hst2
                go_wp2_with fail
                go_roundw
                case rel => exact ⟨m + 1, by omega, by go_num, by rw [hfin.out]; exact hst3.1, h07, hbo7⟩
                case measure => simp [RowKit.intOf]; omega
              · obtain rfl : m = (orderAt s.orders k).lines.length := by omega
                go_wp2_with fail
                go_roundw
                case rel => exact ⟨k + 1, by omega, by go_num, by rw [totsTo_order]; exact hT'.out, h0⟩
                case measure => simp [RowKit.intOf]; omega
          · obtain rfl : k = s.orders.length := by omega
            go_wp2_with fail
            go_ret2
            exact ⟨.slice (some ⟨g1, 0, none⟩) n n, by rw [hc'.out]; rfl, by rw [hE.out]; unfold totalsF; rw [hn]; exact hT'.out, hB⟩
  · have hne : (checkState p s != 0) = true := by simpa using hc
    have hc' := Lib.hid hc
    clear hc
    go_wp2_with fail
    go_ret2
    exact ⟨.slice none 0 0, rfl, by rw [totalsE_bad hc'.out]; exact Own.nil, hB1⟩

set_option maxHeartbeats 4000000 in
theorem bkOpen (w : World) (v vs : Value) (p : Plan) (s : State) (hp : PlanV w w.heap.size v p) (hv : StateV w w.heap.size vs s) :
    Calls Tryz.prog 81 #[v, vs] w fun e w' => e = .returned (.tuple #[.int .i64 (openE p s).1, .int .i64 (openE p s).2]) ∧ Below w.heap.size w w' := by
  obtain ⟨Ab, cb, As, cs, rfl, hP', hBn, hSz, hlb, hls⟩ := openPl hp
  obtain ⟨A0, c0, A1, c1, A2, c2, A3, c3, A4, c4, A5, c5, A6, c6, rfl, hV, hN, hO, hH, hM, hI, hU, hX, hl0, hl1, hl2, hl3, hl4, hl5, hl6⟩ := openOne hv
  go_enter Tryz.func81, Tryz.ntmps81
  go_wp2_with fail
  obtain ⟨W0, hW0, hb0, hsz0, hsz1, hsE, hK⟩ := boxesTwo w p s Ab cb As cs A0 c0 A1 c1 A2 c2 A3 c3 A4 c4 A5 c5 A6 c6
  rw [hW0]
  clear hW0
  obtain ⟨⟨y0, y1⟩, x0, x1, x2, x3, x4, x5, x6, hbz0, hbz1⟩ := hK.out W0 (Below.refl W0.heap.size W0)
  go_wp2_with fail
  clear y0 y1 x0 x1 x2 x3 x4 x5 x6 hbz0 hbz1
  refine (sCheck _ _ _ p s (hP'.out _ hb0) (hV.out _ hb0)).mono ?_
  rintro e W1 ⟨rfl, h1⟩
  have hB1 := hb0.trans (h1.mono hb0.size)
  obtain ⟨⟨y0, y1⟩, x0, x1, x2, x3, x4, x5, x6, hbz0, hbz1⟩ := hK.out W1 (h1)
  by_cases hc : checkState p s = 0
  · have hE := Lib.hid (openE_ok hc)
    have h4 := (checkState_zero.1 hc).1.orders4
    rw [hc]
    clear hc
    go_wp2_with fail
    clear y0 y1 x0 x1 x2 x3 x4 x5 x6 hbz0 hbz1
    go_loopw [19, 7, 9] (fun i n _ wr => ∃ k : Nat, k ≤ s.orders.length ∧ i = .int .i64 k ∧ n = .int .i64 (openTo s k) ∧ Below W0.heap.size W0 wr) (fun i _ _ _ => s.orders.length - (RowKit.intOf i).toNat)
    case atStart => exact ⟨0, Nat.zero_le _, rfl, rfl, h1⟩
    case round =>
      clear h1 hB1
      obtain ⟨k, hk, rfl, rfl, h0⟩ := hrel
      have hB := hb0.trans (h0.mono hb0.size)
      obtain ⟨⟨y0, y1⟩, x0, x1, x2, x3, x4, x5, x6, hbz0, hbz1⟩ := hK.out wr (h0)
      by_cases hlt : k < s.orders.length
      · have hki : (k : Int) < (s.orders.length : Int) := by omega
        obtain ⟨A', c', hok1, hAb1, d0, d1, hsl⟩ := (hO.out wr hB).order hlt
        have h0o := h0.alloc h0.size (.cells #[.int .i64 (orderAt s.orders k).kind, .slice A' (orderAt s.orders k).lines.length c'] 42)
        have hr := openTo_range s k
        have hs' := openTo_succ s k
        by_cases hkd : (orderAt s.orders k).kind = 2
        · have hq : ((orderAt s.orders k).kind != 2) = false := by simpa using hkd
          rw [if_pos hkd, Int.add_zero] at hs'
          have hs2 := Lib.hid hs'
          clear hkd hs'
          go_wp2_with fail
          go_roundw
          case rel => exact ⟨k + 1, by omega, by go_num, by rw [hs2.out], h0o⟩
          case measure => simp [RowKit.intOf]; omega
        · have hq : ((orderAt s.orders k).kind != 2) = true := by simpa using hkd
          rw [if_neg hkd] at hs'
          have hs2 := Lib.hid hs'
          have hw1 : IntKind.i64.wrap (openTo s k + 1) = openTo s k + 1 := IntWalk.i64_in _ (by omega)
          clear hkd hs'
          go_wp2_with fail
          go_roundw
          case rel => exact ⟨k + 1, by omega, by go_num, by rw [hs2.out], h0o⟩
          case measure => simp [RowKit.intOf]; omega
      · obtain rfl : k = s.orders.length := by omega
        go_wp2_with fail
        go_ret2
        exact ⟨by rw [hE.out]; rfl, hB⟩
  · have hne : (checkState p s != 0) = true := by simpa using hc
    have hE := Lib.hid (openE_bad hc)
    clear hc
    go_wp2_with fail
    go_ret2
    exact ⟨by rw [hE.out]; rfl, hB1⟩
end Wh
namespace Wh
open Go Go.RowKit Go.Shelf Go.Proofs
attribute [local go_sem] run_indexAt_letter evL_tmp evL_const evL_func

theorem Own.at_block {α : Type} {enc : α → List Value} {size : Nat} {e : TypeId} {w : World} {base g : Nat} {cs : Array Value} {l : List α} (hb : base ≤ g) (hg : w.heap[g]? = some (.cells cs e)) (hc : cs.toList = l.flatMap enc)
    (hk : ∀ x, (enc x).length = size) (hl : l.length ≤ 1000000) : Own enc size e w base (.slice (some ⟨g, 0, none⟩) l.length l.length) l := by
  refine ⟨by rw [flat_length enc size hk], .inr ⟨g, l.length, cs, rfl, hb, hg, Nat.le_refl _, by unfold maxLen; omega, ?_, ?_⟩⟩
  · rw [← Array.length_toList, hc, flat_length enc size hk]
  · rw [hc, ← flat_length enc size hk, List.take_length]

def busyS : State := ⟨[[9, 0], [3, 0], [0, 6]], [⟨1, [⟨0, 6, 1, 0⟩, ⟨1, 9, 0, 3⟩]⟩, ⟨0, [⟨0, 4, 0, 0⟩]⟩], [⟨0, 0, 0, 2⟩, ⟨0, 0, 1, 3⟩, ⟨0, 1, 2, 6⟩], [⟨0, 0, 1, 5⟩], [13, 6], [1, 0], [0, 0]⟩
def busyV (n : Nat) : SV :=
  ⟨.slice (some ⟨n + 4, 0, none⟩) 3 3, .slice (some ⟨n + 7, 0, none⟩) 2 2, .slice (some ⟨n + 8, 0, none⟩) 3 3, .slice (some ⟨n + 9, 0, none⟩) 1 1, .slice (some ⟨n + 10, 0, none⟩) 2 2, .slice (some ⟨n + 11, 0, none⟩) 2 2, .slice (some ⟨n + 12, 0, none⟩) 2 2,
   [.slice (some ⟨n + 1, 0, none⟩) 2 2, .slice (some ⟨n + 2, 0, none⟩) 2 2, .slice (some ⟨n + 3, 0, none⟩) 2 2], [.slice (some ⟨n + 5, 0, none⟩) 2 2, .slice (some ⟨n + 6, 0, none⟩) 1 1]⟩
def busyO (n : Nat) : List Obj := [
  .cells (busyV n).cells.toArray 31,
  .cells #[.int .i64 9, .int .i64 0] 3, .cells #[.int .i64 3, .int .i64 0] 3, .cells #[.int .i64 0, .int .i64 6] 3,
  .cells #[.slice (some ⟨n + 1, 0, none⟩) 2 2, .slice (some ⟨n + 2, 0, none⟩) 2 2, .slice (some ⟨n + 3, 0, none⟩) 2 2] 23,
  .cells #[.int .i64 0, .int .i64 6, .int .i64 1, .int .i64 0, .int .i64 1, .int .i64 9, .int .i64 0, .int .i64 3] 44,
  .cells #[.int .i64 0, .int .i64 4, .int .i64 0, .int .i64 0] 44,
  .cells #[.int .i64 1, .slice (some ⟨n + 5, 0, none⟩) 2 2, .int .i64 0, .slice (some ⟨n + 6, 0, none⟩) 1 1] 42,
  .cells #[.int .i64 0, .int .i64 0, .int .i64 0, .int .i64 2, .int .i64 0, .int .i64 0, .int .i64 1, .int .i64 3, .int .i64 0, .int .i64 1, .int .i64 2, .int .i64 6] 46,
  .cells #[.int .i64 0, .int .i64 0, .int .i64 1, .int .i64 5] 48,
  .cells #[.int .i64 13, .int .i64 6] 3, .cells #[.int .i64 1, .int .i64 0] 3, .cells #[.int .i64 0, .int .i64 0] 3]
def lay (w : World) (os : List Obj) : World := { w with heap := w.heap ++ os.toArray }
theorem lay_alloc (w : World) (os : List Obj) (o : Obj) : (lay w os).alloc o = lay w (os ++ [o]) := by
  unfold lay World.alloc
  simp
theorem lay_nil (w : World) : lay w [] = w := by unfold lay; simp
theorem lay_foldl (w : World) (os : List Obj) : lay w os = os.foldl World.alloc w := by
  suffices h : ∀ (os ps : List Obj), lay w (ps ++ os) = os.foldl World.alloc (lay w ps) by
    have := h os []
    rwa [lay_nil] at this
  intro os
  induction os with
  | nil => intro ps; simp
  | cons o os ih =>
    intro ps
    have := ih (ps ++ [o])
    rw [List.foldl_cons, lay_alloc, ← this]
    simp
theorem lay_below (w : World) (os : List Obj) : Below w.heap.size w (lay w os) := below_wld w w.drawn os.toArray
theorem lay_at (w : World) (os : List Obj) (i : Nat) : (lay w os).heap[w.heap.size + i]? = os[i]? := by
  unfold lay
  rw [Array.getElem?_append_right (by omega)]
  simp
theorem busyOwn (w : World) : OwnSt (lay w (busyO w.heap.size)) w.heap.size (busyV w.heap.size) busyS := by
  have H := lay_at w (busyO w.heap.size)
  refine ⟨Own.at_block (by omega) (H 4) rfl (fun _ => rfl) (by simp [busyV]), rfl, fun b hb => ?_, Own.at_block (by omega) (H 7) rfl (fun _ => rfl) (by simp [ords, busyS, busyV]), rfl, fun o ho => ?_, Own.at_block (by omega) (H 8) rfl (fun _ => rfl) (by decide), Own.at_block (by omega) (H 9) rfl (fun _ => rfl) (by decide),
    Own.at_block (by omega) (H 10) rfl (fun _ => rfl) (by decide), Own.at_block (by omega) (H 11) rfl (fun _ => rfl) (by decide), Own.at_block (by omega) (H 12) rfl (fun _ => rfl) (by decide), ?_, ?_⟩
  · match b, hb with
    | 0, _ => exact Own.at_block (l := ([9, 0] : List Int)) (by omega) (H 1) rfl (fun _ => rfl) (by decide)
    | 1, _ => exact Own.at_block (l := ([3, 0] : List Int)) (by omega) (H 2) rfl (fun _ => rfl) (by decide)
    | 2, _ => exact Own.at_block (l := ([0, 6] : List Int)) (by omega) (H 3) rfl (fun _ => rfl) (by decide)
    | b + 3, hb => simp [busyS] at hb; omega
  · match o, ho with
    | 0, _ => exact Own.at_block (l := ([⟨0, 6, 1, 0⟩, ⟨1, 9, 0, 3⟩] : List Line)) (by omega) (H 5) rfl (fun _ => rfl) (by decide)
    | 1, _ => exact Own.at_block (l := ([⟨0, 4, 0, 0⟩] : List Line)) (by omega) (H 6) rfl (fun _ => rfl) (by decide)
    | o + 2, ho => simp [busyS] at ho; omega
  · unfold apartL busyV
    simp [Value.ownBlock]
  · unfold apartL busyV
    simp [Value.ownBlock]

set_option maxHeartbeats 4000000 in
theorem lBusy (w : World) : Calls Tryz.prog 42 #[] w fun e w' => ∃ V, e = .returned V.val ∧ OwnSt w' w.heap.size V busyS ∧ Below w.heap.size w w' := by
  go_enter Tryz.func42, Tryz.ntmps42
  go_wp2_with fail
  have h1 := busyOwn w
  have h2 := lay_below w (busyO w.heap.size)
  rw [lay_foldl] at h1 h2
  refine bodyPost_ret (v := (busyV w.heap.size).val) ?_ rfl ⟨busyV w.heap.size, rfl, h1, h2⟩
  simp [results, Tryz.results42, go_sem, SV.val, busyV]

def small (s : State) : Bool := decide (s.on.length ≤ 1000) && s.on.all (fun r => decide (r.length ≤ 1000)) && decide (s.orders.length ≤ 1000) && s.orders.all (fun o => decide (o.lines.length ≤ 1000)) && decide (s.holds.length ≤ 1000) && decide (s.moves.length ≤ 1000) && decide (s.inn.length ≤ 1000) && decide (s.out.length ≤ 1000) && decide (s.fixed.length ≤ 1000)
/-- It reads as the state, however that is. -/
theorem OwnSt.view0 {w : World} {base : Nat} {V : SV} {s : State} (h : OwnSt w base V s) (hs : small s = true) : StateV w w.heap.size V.val s := by
  unfold small at hs
  simp only [Bool.and_eq_true, decide_eq_true_eq, List.all_eq_true] at hs
  obtain ⟨⟨⟨⟨⟨⟨⟨⟨s1, s2⟩, s3⟩, s4⟩, s5⟩, s6⟩, s7⟩, s8⟩, s9⟩ := hs
  obtain ⟨A, c, hv, _, hA⟩ := h.on.sl (by rw [h.rlen]; omega)
  obtain ⟨A1, c1, hv1, _, hA1⟩ := h.orders.sl (by rw [ords_length h.llen]; omega)
  refine ⟨_, _, _, _, _, _, _, rfl, ⟨A, c, V.rows, by rw [hv, h.rlen], by omega, h.rlen, ?_, fun i x hi => ?_⟩, ⟨A1, c1, V.lines, by rw [hv1, ords_length h.llen], by omega, h.llen, ?_, fun i x hi => ?_⟩, h.holds.sl (by omega), h.moves.sl (by omega), h.inn.sl (by omega), h.out.sl (by omega), h.fixed.sl (by omega)⟩
  · have : V.rows.flatMap (fun u => [u]) = V.rows := by simp
    rw [this] at hA
    exact hA
  · have hil : i < s.on.length := (List.getElem?_eq_some_iff.1 hi).1
    have hx : rowAt s.on i = x := by rw [rowAt_eq hil]; exact (List.getElem?_eq_some_iff.1 hi).2
    have := s2 x (List.mem_of_getElem? hi)
    exact ⟨_, h.rowGet hil, by rw [← hx]; exact (h.row i hil).sl (by rw [hx]; omega)⟩
  · have e : (s.orders.zip V.lines).flatMap (fun x => [Value.int .i64 x.1.kind, x.2]) = (ords s.orders V.lines).flatMap cOrd := by
      unfold ords cOrd
      rw [List.zip_eq_zipWith, List.flatMap_def, List.flatMap_def, List.map_zipWith, List.map_zipWith]
    rw [e]
    exact hA1
  · have hil : i < s.orders.length := (List.getElem?_eq_some_iff.1 hi).1
    have hx : s.order i = x := by unfold State.order; rw [orderAt_eq hil]; exact (List.getElem?_eq_some_iff.1 hi).2
    have := s4 x (List.mem_of_getElem? hi)
    exact ⟨_, h.lineGet hil, by rw [← hx]; exact (h.line i hil).sl (by rw [hx]; omega)⟩
end Wh
namespace Wh
open Go Go.RowKit Go.Shelf Go.Proofs
attribute [local go_sem] run_indexAt_letter evL_tmp evL_const evL_func

theorem sane_small {p : Plan} {s : State} (h : Sane p s) : small s = true := by
  have hc := h.counts
  have h4 := h.orders4
  have h8 := h.moves8
  have h72 := ok_len72 h.holds
  unfold small
  simp only [Bool.and_eq_true, decide_eq_true_eq, List.all_eq_true]
  refine ⟨⟨⟨⟨⟨⟨⟨⟨?_, fun r hr => ?_⟩, ?_⟩, fun o ho => ?_⟩, ?_⟩, ?_⟩, ?_⟩, ?_⟩, ?_⟩
  · rw [h.onLen]; omega
  · obtain ⟨i, hi, rfl⟩ := List.getElem_of_mem hr
    have h1 := h.rowLen (b := i) (by rw [← h.onLen]; exact hi)
    rw [rowAt_eq hi] at h1
    omega
  · omega
  · obtain ⟨i, hi, rfl⟩ := List.getElem_of_mem ho
    have h1 := h.lines3 hi
    unfold State.order at h1
    rw [orderAt_eq hi] at h1
    omega
  · omega
  · omega
  · rw [h.inn.1]; omega
  · rw [h.out.1]; omega
  · rw [h.fixed.1]; omega
theorem check_small {p : Plan} {s : State} (h : checkState p s = 0) : small s = true := sane_small (checkState_zero.1 h).1
theorem ActPost.at {r : State × Int} {c : Int} (hc : r.2 = c) {w : World} {e : Ending} {w' : World} (h : ActPost r w e w') : ∃ V, e = .returned (.tuple #[V.val, .int .i64 c]) ∧ OwnSt w' w.heap.size V r.1 ∧ Below w.heap.size w w' := by rw [← hc]; exact h
end Wh
namespace Wh
open Go Go.RowKit Go.Shelf Go.Proofs
attribute [local go_sem] run_indexAt_letter evL_tmp evL_const evL_func

theorem struct_eql {P : Program} {t : TypeId} (hS : P.underlying t = some (.struct (P.fieldsOf t))) (hp : P.stoodInHeld t = false) (xs ys : Array Value) (b : Bool) (h : ∀ w, (Op.eqFields 9999 xs ys (P.fieldsOf t).toList).run P w = .ok b w) (w : World) :
    (binOp .eql t (.agg xs) (.agg ys)).run P w = .ok (.bool b) w := by
  rw [run_eql_struct, show (10000 : Nat) = 9999 + 1 from rfl, run_equalIn_agg w 9999 t _ _ hS hp, h]
  rfl
theorem At.total {w : World} {B : Nat} {A : Option Addr} {l : List Total} (h : At w B A (l.flatMap cTotal)) {i : Nat} (hi : i < l.length) {x : Total} (hx : l[i] = x) :
    okA A ∧ ablk A < B ∧ w.cell? ⟨ablk A, aoff A + i * 4, none⟩ = some (.int .i64 x.on) ∧ w.cell? ⟨ablk A, aoff A + i * 4 + 1, none⟩ = some (.int .i64 x.held) ∧
    w.cell? ⟨ablk A, aoff A + i * 4 + 2, none⟩ = some (.int .i64 x.back) ∧ w.cell? ⟨ablk A, aoff A + i * 4 + 3, none⟩ = some (.int .i64 x.got) := by
  obtain ⟨h1, h2⟩ := h.okOf (k := 3) (fun _ => rfl) hi
  have e : l[i]? = some x := by rw [← hx]; simp [hi]
  have f := fun j hj v hv => h.flat (k := 4) (fun _ => rfl) e (j := j) hj (v := v) hv
  exact ⟨h1, h2, f 0 (by omega) _ rfl, f 1 (by omega) _ rfl, f 2 (by omega) _ rfl, f 3 (by omega) _ rfl⟩
theorem total_eq (x y : Total) : x = y ↔ x.on = y.on ∧ x.held = y.held ∧ x.back = y.back ∧ x.got = y.got := by cases x; cases y; simp
theorem eqlTotal (x y : Total) (w : World) : (binOp .eql 60 (.agg #[.int .i64 x.on, .int .i64 x.held, .int .i64 x.back, .int .i64 x.got]) (.agg #[.int .i64 y.on, .int .i64 y.held, .int .i64 y.back, .int .i64 y.got])).run Tryz.prog w = .ok (.bool (decide (x = y))) w := by
  refine struct_eql (by kernel_rfl) (by kernel_rfl) _ _ _ (fun w => ?_) w
  have u3 := Tryz.underlying3
  have a3 := Tryz.isAgg3
  have z3 := Tryz.sizeOf3
  simp only [Program.fieldsOf, Tryz.underlying60]
  go_simp
  by_cases h1 : x.on = y.on <;> by_cases h2 : x.held = y.held <;> by_cases h3 : x.back = y.back <;> by_cases h4 : x.got = y.got <;> simp [h1, h2, h3, h4, total_eq]
theorem begTot : totalsE yardP busyS = [⟨12, 5, 0, 1⟩, ⟨6, 6, 3, 0⟩] := by decide
theorem begOpen : openE yardP busyS = (2, 0) := by decide
theorem begCheck : checkState yardP busyS = 0 := by decide
set_option maxHeartbeats 4000000 in
set_option maxRecDepth 100000 in
theorem bookBegun (w : World) : Calls Tryz.prog 26 #[] w fun e w' => e = .returned (.bool true) ∧ Below w.heap.size w w' := by
  go_enter Tryz.func26, Tryz.ntmps26
  go_wp2_with fail
  refine (lYard _).mono ?_
  rintro e W1 ⟨u1, rfl, hu1, hb1⟩
  go_wp2_with fail
  refine (lBusy _).mono ?_
  rintro e W2 ⟨V2, rfl, ho2, hb2⟩
  go_wp2_with fail
  refine (bkTotals _ _ _ yardP busyS (hu1.grow hb2) (ho2.view0 (by decide))).mono ?_
  rintro e W3 ⟨u3, rfl, hT3, hb3⟩
  rw [begCheck]
  rw [begTot] at hT3
  have hB3 := hb1.trans ((hb2.trans (hb3.mono hb2.size)).mono hb1.size)
  obtain ⟨g, c, _, rfl, hgb, hblk, _⟩ := hT3.row (by simp)
  have hT3' := Lib.hid hT3
  have hg3 := hblk.lt
  clear hT3 hblk
  go_wp2_with fail
  refine (lYard _).mono ?_
  rintro e W4 ⟨u4, rfl, hu4, hb4⟩
  go_wp2_with fail
  refine (lBusy _).mono ?_
  rintro e W5 ⟨V5, rfl, ho5, hb5⟩
  go_wp2_with fail
  refine (bkOpen _ _ _ yardP busyS (hu4.grow hb5) (ho5.view0 (by decide))).mono ?_
  rintro e W6 ⟨rfl, hb6⟩
  rw [begOpen]
  have h36 := hb4.trans ((hb5.trans (hb6.mono hb5.size)).mono hb4.size)
  have hB6 := hB3.trans (h36.mono hB3.size)
  have hT6 := hT3'.out.below h36
  obtain ⟨_, _, c0, c1, c2, c3⟩ := totAt hT6 (i := 0) (by decide) rfl
  obtain ⟨_, _, d0, d1, d2, d3⟩ := totAt hT6 (i := 1) (by decide) rfl
  simp only [Nat.zero_mul, Nat.zero_add, Nat.one_mul, List.getElem_cons_zero, List.getElem_cons_succ] at c0 c1 c2 c3 d0 d1 d2 d3
  have hq := eqlTotal
  have q1 : decide ((⟨12, 5, 0, 1⟩ : Total) = ⟨12, 5, 0, 1⟩) = true := by decide
  have q2 : decide ((⟨6, 6, 3, 0⟩ : Total) = ⟨6, 6, 3, 0⟩) = true := by decide
  have e1 := eqlTotal ⟨12, 5, 0, 1⟩ ⟨12, 5, 0, 1⟩
  have e2 := eqlTotal ⟨6, 6, 3, 0⟩ ⟨6, 6, 3, 0⟩
  rw [q1] at e1
  rw [q2] at e2
  have hgd : Tryz.prog.eqGuardType Tryz.prog.depth 60 = false := by kernel_rfl
  clear hq q1 q2 hT6 h36 hu1 hu4 ho2 ho5
  go_wp2_with fail
  go_ret
  exact ⟨rfl, hB6⟩

end Wh
namespace Wh
open Go Go.RowKit Go.Shelf Go.Proofs
attribute [local go_sem] run_indexAt_letter evL_tmp evL_const evL_func

theorem At.tail {w : World} {B g o : Nat} {xs ys : List Value} (h : At w B (some ⟨g, o, none⟩) (xs ++ ys)) : At w B (some ⟨g, o + xs.length, none⟩) ys := by
  intro hn
  obtain ⟨h1, h2, h3⟩ := h (by simp [hn])
  refine ⟨⟨g, _, rfl⟩, h2, fun j v hj => ?_⟩
  have := h3 (xs.length + j) v (by rw [List.getElem?_append_right (by omega), Nat.add_sub_cancel_left]; exact hj)
  rw [← Nat.add_assoc] at this
  exact this
end Wh
namespace Wh
open Go

def lexL (ops : Array Oper) : Nat → List Oper → Bool
  | _, [] => true
  | k, o :: r => (o.after.all fun e => !Region.binds .any e || decide (e.on < k)) && (r.all fun x => (x.after.any fun e => Region.binds .any e && e.on == k) || o.apart ops x) && lexL ops (k + 1) r

theorem lexFrom_of {ops : Array Oper} : ∀ (r : List Oper) (k : Nat) (listed : Array Bool), (∀ j, r[j]? = ops[k + j]?) → listed.size = ops.size → (∀ j, j < ops.size → listed[j]? = some (decide (j < k))) →
    lexL ops k r = true → Region.lexFrom .any ops r.length k listed = true
  | [], k, listed, hl, hsz, hi, _ => by
    have hk : ops.size ≤ k := by
      rcases Nat.lt_or_ge k ops.size with h | h
      · have := hl 0
        simp [h] at this
      · exact h
    have : Region.ready .any ops listed = [] := by
      rw [List.eq_nil_iff_forall_not_mem]
      intro j hj
      obtain ⟨h1, o, ho, _⟩ := mem_ready.1 hj
      have hjs := (Array.getElem?_eq_some_iff.1 ho).1
      have h2 := hi j hjs
      rw [decide_eq_true (by omega)] at h2
      simp [Array.getD_eq_getD_getElem?, h2] at h1
    show (Region.ready .any ops listed).isEmpty = true
    rw [this]
    rfl
  | o :: r, k, listed, hl, hsz, hi, h => by
    have hk0 : ops[k]? = some o := by simpa using (hl 0).symm
    have hks := (Array.getElem?_eq_some_iff.1 hk0).1
    simp only [lexL, Bool.and_eq_true] at h
    obtain ⟨⟨h1, h2⟩, h3⟩ := h
    have hr : (Region.ready .any ops listed).contains k = true := by
      rw [List.contains_iff_mem]
      refine mem_ready.2 ⟨?_, o, hk0, fun e he hb => ?_⟩
      · have := hi k hks
        rw [decide_eq_false (by omega)] at this
        simp [Array.getD_eq_getD_getElem?, this]
      · have := Array.all_eq_true_iff_forall_mem.1 h1 e he
        rw [hb] at this
        have hlt : e.on < k := by simpa using this
        have h4 := hi e.on (by omega)
        rw [decide_eq_true hlt] at h4
        simp [Array.getD_eq_getD_getElem?, h4]
    have hf : Region.free .any ops listed k = true := by
      simp only [Region.free, hk0, List.all_eq_true, List.mem_range]
      intro j hj
      rcases Nat.lt_trichotomy j k with hlt | rfl | hgt
      · have h4 := hi j hj
        rw [decide_eq_true hlt] at h4
        simp [Array.getD_eq_getD_getElem?, h4]
      · simp
      · have h5 := hl (j - k)
        rw [show k + (j - k) = j by omega] at h5
        obtain ⟨m, hm⟩ : ∃ m, j - k = m + 1 := ⟨j - k - 1, by omega⟩
        rw [hm, List.getElem?_cons_succ] at h5
        have hj' : ops[j]? = some ops[j] := by simp [hj]
        rw [hj'] at h5
        have h6 := List.all_eq_true.1 h2 _ (List.mem_of_getElem? h5)
        simp only [hj', Bool.or_eq_true] at h6 ⊢
        right
        exact h6
    have hstep := lexFrom_of r (k + 1) (listed.setIfInBounds k true) (fun j => by have := hl (j + 1); simpa [Nat.add_assoc, Nat.add_comm 1 j] using this) (by simpa using hsz) (fun j hj => by
      rw [Array.getElem?_setIfInBounds]
      by_cases hjk : k = j
      · subst hjk
        rw [if_pos rfl, if_pos (by omega), decide_eq_true (by omega)]
      · rw [if_neg hjk, hi j hj]
        by_cases hlt : j < k
        · rw [decide_eq_true hlt, decide_eq_true (by omega)]
        · rw [decide_eq_false hlt, decide_eq_false (by omega)]) h3
    show ((Region.ready .any ops listed).contains k && Region.free .any ops listed k && Region.lexFrom .any ops r.length (k + 1) (listed.setIfInBounds k true)) = true
    rw [hr, hf, hstep]
    rfl
theorem lexB_of {l : List Oper} (hs : Region.noSelect l.toArray = true) (h : lexL l.toArray 0 l = true) : Region.lexB .any l.toArray = true := by
  unfold Region.lexB
  rw [hs, Bool.true_and]
  exact lexFrom_of l 0 _ (fun j => by simp) (by simp) (fun j hj => by
    have hj' : j < l.length := by simpa using hj
    simp [hj']) h
end Wh
