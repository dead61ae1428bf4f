/- Texts of the claim, joined: BookA, BookB, BookC, PlainN, PlainO, PlainP, PlainQ, PlainR. -/
import Derived.Laws.MakeOwn
import Derived.StillTailTactics
import Derived.Test.YtijilfghfahgjaaQ09
import Derived.Test.YtijilfghfahgjaaQ12
import Derived.Test.YtijilfghfahgjaaQ13
import Derived.Test.YtijilfghfahgjaaQ19
import Derived.Test.YtijilfghfahgjaaQ10
import Derived.Test.YtijilfghfahgjaaQ22
import Derived.Test.YtijilfghfahgjaaQ16
namespace Wh

def heldG (s : State) (g : Int) (o k : Nat) : Int := if (s.line o k).good = g then kept s.holds o k else 0
def backG (s : State) (g : Int) (o k : Nat) : Int := if (s.line o k).good = g then (s.line o k).back else 0
def gotG (s : State) (g : Int) (o k : Nat) : Int := if (s.line o k).good = g then (s.line o k).got else 0
/-- What is summed over all orders ahead of o, and the lines of o ahead of k. -/
def ovTo (F : Nat → Nat → Int) (s : State) (o k : Nat) : Int := sumTo (fun i => sumTo (F i) (s.order i).lines.length) o + sumTo (F o) k
def tot (s : State) (g : Int) (o k : Nat) : Total := ⟨sumOf s.on g.toNat, ovTo (heldG s g) s o k, ovTo (backG s g) s o k, ovTo (gotG s g) s o k⟩
def totsTo (s : State) (n o k : Nat) : List Total := (List.range n).map fun g : Nat => tot s g o k
def dTotal : Total := ⟨0, 0, 0, 0⟩
def onsTo (s : State) (n q : Nat) : List Total := (List.range n).map fun g : Nat => if g < q then tot s g 0 0 else dTotal
def totalsF (p : Plan) (s : State) : List Total := totsTo s p.sizes.length s.orders.length 0
def openTo (s : State) (k : Nat) : Int := sumTo (fun o => if (orderAt s.orders o).kind = 2 then 0 else 1) k

theorem ovTo_line (F : Nat → Nat → Int) (s : State) (o k : Nat) : ovTo F s o (k + 1) = ovTo F s o k + F o k := by
  show _ + (sumTo (F o) k + F o k) = _
  unfold ovTo
  omega
theorem ovTo_order (F : Nat → Nat → Int) (s : State) (o : Nat) : ovTo F s (o + 1) 0 = ovTo F s o (s.order o).lines.length := by
  show (sumTo _ o + sumTo (F o) (s.order o).lines.length) + 0 = _
  unfold ovTo
  omega
theorem ovTo_range {p : Plan} {s : State} (hs : Sane p s) {F : Nat → Nat → Int} (hF : ∀ i k, i < s.orders.length → k < (s.order i).lines.length → 0 ≤ F i k ∧ F i k ≤ 1200) {o k : Nat} (ho : o < s.orders.length) (hk : k ≤ (s.order o).lines.length) :
    0 ≤ ovTo F s o k ∧ ovTo F s o k ≤ 20000 := by
  have h4 := hs.orders4
  have h3 := hs.lines3 ho
  have a := sumTo_bounds (f := F o) (n := k) (m := 1200) (fun j hj => hF o j ho (by omega))
  have b := sumTo_bounds (f := fun i => sumTo (F i) (s.order i).lines.length) (n := o) (m := 3600) (fun i hi => by
    have h3' := hs.lines3 (o := i) (by omega)
    have := sumTo_bounds (f := F i) (n := (s.order i).lines.length) (m := 1200) (fun j hj => hF i j (by omega) hj)
    omega)
  unfold ovTo
  omega
theorem heldG_range {p : Plan} {s : State} (hs : Sane p s) (g : Int) (i k : Nat) (_ : i < s.orders.length) (_ : k < (s.order i).lines.length) : 0 ≤ heldG s g i k ∧ heldG s g i k ≤ 1200 := by
  have := kept_range hs.holds i k
  unfold heldG
  split <;> omega
theorem backG_range {p : Plan} {s : State} (hs : Sane p s) (g : Int) (i k : Nat) (hi : i < s.orders.length) (hk : k < (s.order i).lines.length) : 0 ≤ backG s g i k ∧ backG s g i k ≤ 1200 := by
  have := hs.line hi hk
  unfold backG
  split <;> omega
theorem gotG_range {p : Plan} {s : State} (hs : Sane p s) (g : Int) (i k : Nat) (hi : i < s.orders.length) (hk : k < (s.order i).lines.length) : 0 ≤ gotG s g i k ∧ gotG s g i k ≤ 1200 := by
  have := hs.line hi hk
  unfold gotG
  split <;> omega
theorem tot_range {p : Plan} {s : State} (hs : Sane p s) (g : Int) {o k : Nat} (ho : o < s.orders.length) (hk : k ≤ (s.order o).lines.length) :
    (0 ≤ (tot s g o k).held ∧ (tot s g o k).held ≤ 20000) ∧ (0 ≤ (tot s g o k).back ∧ (tot s g o k).back ≤ 20000) ∧ (0 ≤ (tot s g o k).got ∧ (tot s g o k).got ≤ 20000) :=
  ⟨ovTo_range hs (heldG_range hs g) ho hk, ovTo_range hs (backG_range hs g) ho hk, ovTo_range hs (gotG_range hs g) ho hk⟩
theorem tot_line (s : State) (g : Int) (o k : Nat) : tot s g o (k + 1) = if (s.line o k).good = g then ⟨(tot s g o k).on, (tot s g o k).held + kept s.holds o k, (tot s g o k).back + (s.line o k).back, (tot s g o k).got + (s.line o k).got⟩ else tot s g o k := by
  unfold tot
  rw [ovTo_line, ovTo_line, ovTo_line]
  unfold heldG backG gotG
  split
  · rfl
  · simp
theorem tot_order (s : State) (g : Int) (o : Nat) : tot s g (o + 1) 0 = tot s g o (s.order o).lines.length := by
  unfold tot
  rw [ovTo_order, ovTo_order, ovTo_order]
theorem totsTo_length (s : State) (n o k : Nat) : (totsTo s n o k).length = n := by simp [totsTo]
theorem totsTo_get (s : State) (n o k : Nat) {g : Nat} (hg : g < (totsTo s n o k).length) : (totsTo s n o k)[g] = tot s g o k := by simp [totsTo]
theorem onsTo_length (s : State) (n q : Nat) : (onsTo s n q).length = n := by simp [onsTo]
theorem onsTo_get (s : State) (n q : Nat) {g : Nat} (hg : g < (onsTo s n q).length) : (onsTo s n q)[g] = if g < q then tot s g 0 0 else dTotal := by simp [onsTo]
theorem totsTo_line (s : State) (n o k : Nat) {g : Nat} (h : (s.line o k).good = g) (hg : g < n) : totsTo s n o (k + 1) = (totsTo s n o k).set g ⟨(tot s g o k).on, (tot s g o k).held + kept s.holds o k, (tot s g o k).back + (s.line o k).back, (tot s g o k).got + (s.line o k).got⟩ := by
  apply List.ext_getElem?
  intro i
  rw [List.getElem?_set]
  unfold totsTo
  by_cases hi : g = i
  · subst hi
    simp only [List.length_map, List.length_range, hg, if_true]
    simp only [List.getElem?_map, List.getElem?_range hg, Option.map_some]
    rw [tot_line, if_pos h]
  · rw [if_neg hi]
    simp only [List.getElem?_map]
    by_cases hin : i < n
    · rw [List.getElem?_range hin]
      simp only [Option.map_some]
      rw [tot_line, if_neg (by rw [h]; omega)]
    · rw [List.getElem?_eq_none (by simp; omega)]
      rfl
theorem totsTo_order (s : State) (n o : Nat) : totsTo s n (o + 1) 0 = totsTo s n o (s.order o).lines.length := by
  unfold totsTo
  exact List.map_congr_left fun g _ => tot_order s g o
theorem onsTo_zero (s : State) (n : Nat) : onsTo s n 0 = List.replicate n dTotal := by
  apply List.ext_getElem
  · simp [onsTo]
  · intro i h1 h2
    rw [onsTo_get]
    simp
theorem onsTo_succ (s : State) (n q : Nat) (hq : q < n) : onsTo s n (q + 1) = (onsTo s n q).set q ⟨sumOf s.on q, 0, 0, 0⟩ := by
  apply List.ext_getElem?
  intro i
  rw [List.getElem?_set, onsTo_length]
  unfold onsTo
  by_cases hi : q = i
  · subst hi
    simp only [if_true, hq]
    simp only [List.getElem?_map, List.getElem?_range hq, Option.map_some]
    rw [if_pos (by omega)]
    rfl
  · rw [if_neg hi]
    simp only [List.getElem?_map]
    by_cases hin : i < n
    · rw [List.getElem?_range hin]
      simp only [Option.map_some]
      congr 1
      by_cases h2 : i < q
      · rw [if_pos (by omega), if_pos h2]
      · rw [if_neg (by omega), if_neg h2]
    · rw [List.getElem?_eq_none (by simp; omega)]
      rfl
theorem onsTo_all (s : State) (n : Nat) : onsTo s n n = totsTo s n 0 0 := by
  unfold onsTo totsTo
  refine List.map_congr_left fun g hg => ?_
  rw [if_pos (List.mem_range.1 hg)]
theorem openTo_succ (s : State) (k : Nat) : openTo s (k + 1) = openTo s k + if (orderAt s.orders k).kind = 2 then 0 else 1 := rfl
theorem openTo_range (s : State) (k : Nat) : 0 ≤ openTo s k ∧ openTo s k ≤ k := by
  have := sumTo_bounds (f := fun o => if (orderAt s.orders o).kind = 2 then (0 : Int) else 1) (n := k) (m := 1) (fun j _ => by show 0 ≤ (if (orderAt s.orders j).kind = 2 then (0 : Int) else 1) ∧ (if (orderAt s.orders j).kind = 2 then (0 : Int) else 1) ≤ 1; split <;> omega)
  unfold openTo
  omega
def openF (s : State) : Int := openTo s s.orders.length
def openE (p : Plan) (s : State) : Int × Int := if checkState p s ≠ 0 then (0, checkState p s) else (openF s, 0)
def totalsE (p : Plan) (s : State) : List Total := if checkState p s = 0 then totalsF p s else []
theorem totalsE_bad {p : Plan} {s : State} (h : checkState p s ≠ 0) : totalsE p s = [] := by unfold totalsE; rw [if_neg h]
theorem totalsE_ok {p : Plan} {s : State} (h : checkState p s = 0) : totalsE p s = totalsF p s := by unfold totalsE; rw [if_pos h]
theorem openE_bad {p : Plan} {s : State} (h : checkState p s ≠ 0) : openE p s = (0, checkState p s) := by unfold openE; rw [if_pos h]
theorem openE_ok {p : Plan} {s : State} (h : checkState p s = 0) : openE p s = (openF s, 0) := by unfold openE; rw [if_neg (fun hn => hn h)]
end Wh
namespace Wh
open Go Go.RowKit Go.Shelf Go.Proofs
attribute [local go_sem] run_indexAt_letter

theorem infoTotal : Elem Try.prog 103 (.agg #[.int .i64 0, .int .i64 0, .int .i64 0, .int .i64 0]) 4 32 := elem_of (by kernel_rfl)
def zT : Array Value := #[.int .i64 0, .int .i64 0, .int .i64 0, .int .i64 0]
theorem made_totals (n : Nat) : (madeCells zT (n * 4)).toList = (List.replicate n dTotal).flatMap cTotal := by
  have h1 : (madeCells zT (n * 4)).toList = List.replicate (n * 4) (.int .i64 0) := by
    apply List.ext_getElem
    · simp [madeCells]
    · intro i h1 h2
      have : i % 4 = 0 ∨ i % 4 = 1 ∨ i % 4 = 2 ∨ i % 4 = 3 := by omega
      rcases this with h | h | h | h <;> simp [madeCells, zT, h]
  have h2 : (List.replicate n dTotal).flatMap cTotal = List.replicate (n * 4) (.int .i64 0) := by
    induction n with
    | zero => rfl
    | succ n ih =>
      rw [List.replicate_succ, List.flatMap_cons, ih (by
        apply List.ext_getElem
        · simp [madeCells]
        · intro i h1 h2
          have : i % 4 = 0 ∨ i % 4 = 1 ∨ i % 4 = 2 ∨ i % 4 = 3 := by omega
          rcases this with h | h | h | h <;> simp [madeCells, zT, h]), show (n + 1) * 4 = 4 + n * 4 by omega, ← List.replicate_append_replicate]
      rfl
  rw [h1, h2]
theorem run_make_totals (n : Nat) (hn : n ≤ 1000) (w : World) : (Instr.makeSlice 99 (.int .i64 (n : Int)) (.int .i64 (n : Int))).run Try.prog w = .ok (.slice (some ⟨w.heap.size, 0, none⟩) n n) (w.alloc (.cells (madeCells zT (n * 4)) 103)) := by
  obtain ⟨i, hi, hz, hs, hb⟩ := infoTotal
  have := run_make (P := Try.prog) w 99 103 i _ Try.underlying99 hi hz .i64 .i64 n n (by omega) (Int.le_refl _) (by rw [hb]; omega) (by omega)
  simp only [Int.toNat_natCast, hs] at this
  exact this
theorem Own.made_totals (w : World) (n : Nat) (hn : n ≤ 1000) : Own cTotal 4 103 (w.alloc (.cells (madeCells zT (n * 4)) 103)) w.heap.size (.slice (some ⟨w.heap.size, 0, none⟩) n n) (List.replicate n dTotal) := by
  have := Own.lit (base := w.heap.size) (enc := cTotal) (size := 4) w 103 (madeCells zT (n * 4)) (List.replicate n dTotal) (Nat.le_refl _) (by simp; omega) (fun _ => rfl) (Wh.made_totals n)
  simpa using this
theorem totAt {w : World} {base g n c : Nat} {l : List Total} (h : Own cTotal 4 103 w base (.slice (some ⟨g, 0, none⟩) n c) l) {i : Nat} (hi : i < l.length) {x : Total} (hx : l[i] = x) : base ≤ g ∧ (∃ cur, Blk w g 103 cur) ∧
    w.cell? ⟨g, i * 4, none⟩ = some (.int .i64 x.on) ∧ w.cell? ⟨g, i * 4 + 1, none⟩ = some (.int .i64 x.held) ∧ w.cell? ⟨g, i * 4 + 2, none⟩ = some (.int .i64 x.back) ∧ w.cell? ⟨g, i * 4 + 3, none⟩ = some (.int .i64 x.got) := by
  obtain ⟨g', c', cur, e1, h2, h3, h4⟩ := h.at (fun _ => rfl) hi
  injection e1 with e1
  injection e1 with e1
  injection e1 with e1
  subst e1
  rw [hx] at h4
  exact ⟨h2, ⟨cur, h3⟩, h4 0 _ rfl, h4 1 _ rfl, h4 2 _ rfl, h4 3 _ rfl⟩

set_option maxHeartbeats 8000000 in
set_option maxRecDepth 100000 in
theorem bkTotals (w : World) (v vs : Value) (p : Plan) (s : State) (hp : PlanV w w.heap.size v p) (hv : StateV w w.heap.size vs s) :
    Calls Try.prog 70 #[v, vs] w fun e w' => ∃ u, e = .returned (.tuple #[u, .int .i64 (checkState p s)]) ∧ Own cTotal 4 103 w' w.heap.size u (totalsE p s) ∧ Below w.heap.size w w' := by
  obtain ⟨Ab, cb, As, cs, rfl, hP', hBn, hSz, hlb, hls⟩ := openPl hp
  obtain ⟨A0, c0, A1, c1, A2, c2, A3, c3, A4, c4, A5, c5, A6, c6, rfl, hV, hN, hO, hH, hM, hI, hU, hX, hl0, hl1, hl2, hl3, hl4, hl5, hl6⟩ := openOne hv
  go_enter Try.func70, Try.ntmps70
  go_wp2_with fail
  obtain ⟨W0, hW0, hb0, hsz0, hsz1, hsE, hK⟩ := boxesTwo w p s Ab cb As cs A0 c0 A1 c1 A2 c2 A3 c3 A4 c4 A5 c5 A6 c6
  rw [hW0]
  clear hW0
  obtain ⟨⟨y0, y1⟩, x0, x1, x2, x3, x4, x5, x6, hbz0, hbz1⟩ := hK.out W0 (Below.refl W0.heap.size W0)
  go_wp2_with fail
  clear y0 y1 x0 x1 x2 x3 x4 x5 x6 hbz0 hbz1
  refine (sCheck _ _ _ p s (hP'.out _ hb0) (hV.out _ hb0)).mono ?_
  rintro e W1 ⟨rfl, h1⟩
  have hB1 := hb0.trans (h1.mono hb0.size)
  obtain ⟨⟨y0, y1⟩, x0, x1, x2, x3, x4, x5, x6, hbz0, hbz1⟩ := hK.out W1 (h1)
  by_cases hc : checkState p s = 0
  · have hsn := Lib.hid (checkState_zero.1 hc).1
    have hE := Lib.hid (totalsE_ok hc)
    have hc' := Lib.hid hc
    rw [hc]
    clear hc
    have hcnt := hsn.out.counts
    have hmk := run_make_totals p.sizes.length (by omega)
    have h2 : Below W0.heap.size W0 (W1.alloc (.cells (madeCells zT (p.sizes.length * 4)) 103)) := h1.alloc h1.size _
    have hT2 := Lib.hid ((Own.made_totals W1 p.sizes.length (by omega)).from_ hB1.size)
    have hle := Lib.hid h1.size
    have hO0 := Lib.hid (hO.out w (Below.refl _ _))
    go_wp2_with fail
    clear hmk
    clear y0 y1 x0 x1 x2 x3 x4 x5 x6 hbz0 hbz1
    generalize W1.heap.size = g1 at hT2 hle ⊢
    generalize W1.alloc (.cells (madeCells zT (p.sizes.length * 4)) 103) = W2 at h2 hT2 ⊢
    go_loopw [28, 8] (fun i _ wr => ∃ q : Nat, q ≤ p.sizes.length ∧ i = .int .i64 q ∧ Own cTotal 4 103 wr w.heap.size (.slice (some ⟨g1, 0, none⟩) p.sizes.length p.sizes.length) (onsTo s p.sizes.length q) ∧ Below W0.heap.size W0 wr) (fun i _ _ => p.sizes.length - (intOf i).toNat)
    case atStart => exact ⟨0, Nat.zero_le _, rfl, by rw [onsTo_zero]; exact hT2.out, h2⟩
    case round =>
      clear h1 h2 hT2 hB1
      obtain ⟨q, hq, rfl, hT, h0⟩ := hrel
      have hT' := Lib.hid hT
      clear hT
      have hB := hb0.trans (h0.mono hb0.size)
      obtain ⟨⟨y0, y1⟩, x0, x1, x2, x3, x4, x5, x6, hbz0, hbz1⟩ := hK.out wr (h0)
      by_cases hlt : q < p.sizes.length
      · have hqi : (q : Int) < (p.sizes.length : Int) := by omega
        have hSE := Lib.hid (sumE_ok (shelfError_zero.2 ⟨hsn.out.shelf, isBin_iff.2 (by omega), isGood_iff.2 (by omega)⟩ : shelfError p s.on 0 q = 0))
        go_wp2_with fail
        clear y0 y1 x0 x1 x2 x3 x4 x5 x6 hbz0 hbz1
        refine (shelfSum _ _ _ p s.on q (hP'.out wr hB) (hN.out wr hB)).mono ?_
        rintro e W3 ⟨rfl, h3⟩
        rw [hSE.out]
        have hT3 := hT'.out.below h3
        have h03 := h0.trans (h3.mono h0.size)
        obtain ⟨hgb, ⟨cur, hblk⟩, c0, c1, c2, c3⟩ := totAt hT3 (i := q) (by rw [onsTo_length]; exact hlt) (onsTo_get _ _ _ _)
        rw [if_neg (by omega)] at c0
        have hf := hblk.frozen (q * 4)
        have hst := Own.store (i := q) (j := 0) hT3 (fun _ => rfl) (by rw [onsTo_length]; exact hlt) (by omega) (y := ⟨sumOf s.on q, 0, 0, 0⟩) (u := .int .i64 (sumOf s.on q)) (by rw [onsTo_get, if_neg (by omega)]; rfl)
        rw [Nat.add_zero, ← onsTo_succ s _ q hlt] at hst
        have h04 := h03.setCell (p := ⟨g1, q * 4, none⟩) hle.out (.int .i64 (sumOf s.on q))
        clear c1 c2 c3 hT3 hT'
        go_wp2_with (refine wpList_store_int rfl (.tmp 42) (.tmp 39) rfl rfl g1 (q * 4) _ _ rfl rfl c0 hf (fun w4 hw4 => ?_); refine Hid.out ?_)
        unfold Hid
        rw [hw4] at hst h04
        clear hw4 c0 hf hblk h03 h3
        go_wp2_with fail
        go_roundw
        case rel => exact ⟨q + 1, by omega, by go_num, hst.1, h04⟩
        case measure => simp [intOf]; omega
      · obtain rfl : q = p.sizes.length := by omega
        rw [onsTo_all] at hT'
        go_wp2_with fail
        clear y0 y1 x0 x1 x2 x3 x4 x5 x6 hbz0 hbz1
        generalize hn : p.sizes.length = n at hT' hle ⊢
        go_loopw [47, 9, 10, 11, 12, 13, 14, 15] (fun i _ _ _ _ _ _ _ wr => ∃ k : Nat, k ≤ s.orders.length ∧ i = .int .i64 k ∧ Own cTotal 4 103 wr w.heap.size (.slice (some ⟨g1, 0, none⟩) n n) (totsTo s n k 0) ∧ Below W0.heap.size W0 wr) (fun i _ _ _ _ _ _ _ _ => s.orders.length - (intOf i).toNat)
        case atStart => exact ⟨0, Nat.zero_le _, rfl, hT'.out, h0⟩
        case round =>
          clear hT' h0 hB
          obtain ⟨k, hk, rfl, hT, h0⟩ := hrel
          have hT' := Lib.hid hT
          clear hT
          have hB := hb0.trans (h0.mono hb0.size)
          obtain ⟨⟨y0, y1⟩, x0, x1, x2, x3, x4, x5, x6, hbz0, hbz1⟩ := hK.out wr (h0)
          by_cases hlt : k < s.orders.length
          · have hki : (k : Int) < (s.orders.length : Int) := by omega
            obtain ⟨A', c', hok1, hAb1, d0, d1, hsl⟩ := hO0.out.order hlt
            have d0' := (hB.cell (p := ⟨ablk A1, aoff A1 + k * 2, none⟩) hAb1).trans d0
            have d1' := (hB.cell (p := ⟨ablk A1, aoff A1 + k * 2 + 1, none⟩) hAb1).trans d1
            have hsl' := Lib.hid hsl
            obtain ⟨l1, l3⟩ := hsn.out.lines3 hlt
            change 1 ≤ (orderAt s.orders k).lines.length at l1
            change (orderAt s.orders k).lines.length ≤ 3 at l3
            have hbo := Lib.hid (Blk.new wr 53 #[.int .i64 (orderAt s.orders k).kind, .slice A' (orderAt s.orders k).lines.length c'])
            have h0o := h0.alloc h0.size (.cells #[.int .i64 (orderAt s.orders k).kind, .slice A' (orderAt s.orders k).lines.length c'] 53)
            have hTo := Lib.hid (hT'.out.alloc (.cells #[.int .i64 (orderAt s.orders k).kind, .slice A' (orderAt s.orders k).lines.length c'] 53))
            clear d0 d1 hsl
            go_wp2_with fail
            clear d0' d1' hok1 hT'
            clear y0 y1 x0 x1 x2 x3 x4 x5 x6 hbz0 hbz1
            generalize wr.heap.size = wo at hbo ⊢
            generalize wr.alloc (.cells #[.int .i64 (orderAt s.orders k).kind, .slice A' (orderAt s.orders k).lines.length c'] 53) = W3 at hbo h0o hTo ⊢
            go_loopw [55, 11, 12, 13, 14, 15] (fun i _ _ _ _ _ wr => ∃ m : Nat, m ≤ (orderAt s.orders k).lines.length ∧ i = .int .i64 m ∧ Own cTotal 4 103 wr w.heap.size (.slice (some ⟨g1, 0, none⟩) n n) (totsTo s n k m) ∧ Below W0.heap.size W0 wr ∧ Blk wr wo 53 [.int .i64 (orderAt s.orders k).kind, .slice A' (orderAt s.orders k).lines.length c']) (fun i _ _ _ _ _ _ => (orderAt s.orders k).lines.length - (intOf i).toNat)
            case atStart => exact ⟨0, Nat.zero_le _, rfl, hTo.out, h0o, hbo.out⟩
            case round =>
              clear hTo h0 h0o hB hbo
              obtain ⟨m, hm, rfl, hT, h0, hbo⟩ := hrel
              have hT' := Lib.hid hT
              have hbo' := Lib.hid hbo
              clear hT hbo
              have hB := hb0.trans (h0.mono hb0.size)
              obtain ⟨⟨y0, y1⟩, x0, x1, x2, x3, x4, x5, x6, hbz0, hbz1⟩ := hK.out wr (h0)
              by_cases hml : m < (orderAt s.orders k).lines.length
              · have hmi : (m : Int) < ((orderAt s.orders k).lines.length : Int) := by omega
                obtain ⟨hok2, hAb2, e0, e1, e2, e3⟩ := (hsl'.out.grow hB).at_.line hml
                have hl : lineAt (orderAt s.orders k).lines m = s.line k m := rfl
                rw [hl] at e0 e1 e2 e3
                clear hl
                obtain ⟨⟨g1a, g1b⟩, ⟨b1, b2⟩, ⟨b3, b4⟩, b5, b6⟩ := hsn.out.line hlt hml
                obtain ⟨b7, b8⟩ := kept_range hsn.out.holds k m
                obtain ⟨gd, hgd⟩ : ∃ gd : Nat, (s.line k m).good = gd := ⟨(s.line k m).good.toNat, by omega⟩
                have hgn : gd < n := by omega
                have hgi : (gd : Int) < (n : Int) := by omega
                rw [hgd] at e0
                have hTR := tot_range hsn.out gd hlt (k := m) hm
                have hke1 := Lib.hid (show (keptE s.holds k m).1 = kept s.holds k m by rw [keptE_ok hsn.out.holds])
                have hke2 := Lib.hid (show (keptE s.holds k m).2 = 0 by rw [keptE_ok hsn.out.holds])
                have hbl := Lib.hid (Blk.new wr 56 #[.int .i64 gd, .int .i64 (s.line k m).want, .int .i64 (s.line k m).got, .int .i64 (s.line k m).back])
                have h0l := h0.alloc h0.size (.cells #[.int .i64 gd, .int .i64 (s.line k m).want, .int .i64 (s.line k m).got, .int .i64 (s.line k m).back] 56)
                have hTl := Lib.hid (hT'.out.alloc (.cells #[.int .i64 gd, .int .i64 (s.line k m).want, .int .i64 (s.line k m).got, .int .i64 (s.line k m).back] 56))
                have hbol := Lib.hid (hbo'.out.alloc (.cells #[.int .i64 gd, .int .i64 (s.line k m).want, .int .i64 (s.line k m).got, .int .i64 (s.line k m).back] 56))
                have hBl := hb0.trans (h0l.mono hb0.size)
                have w1 := hbo'.out.cell (j := 1) rfl
                go_wp2_with fail
                clear y0 y1 x0 x1 x2 x3 x4 x5 x6 hbz0 hbz1
                clear e0 e1 e2 e3 w1
                refine (hdKept _ _ s.holds k m (hH.out _ hBl)).mono ?_
                rintro e W4 ⟨rfl, h4⟩
                rw [hke1.out, hke2.out]
                have h04 := h0l.trans (h4.mono h0l.size)
                have hbl4 := hbl.out.below h4 hbl.out.lt
                have hbo4 := hbol.out.below h4 hbol.out.lt
                have hT4 := hTl.out.below h4
                have hd1 : wr.heap.size ≠ g1 := fun e => by
                  obtain ⟨_, ⟨cur, hb⟩, _⟩ := totAt hT4 (i := gd) (by rw [totsTo_length]; exact hgn) rfl
                  rw [e] at hbl4
                  exact hbl4.ne hb (by decide) rfl
                have hd2 : wo ≠ g1 := fun e => by
                  obtain ⟨_, ⟨cur, hb⟩, _⟩ := totAt hT4 (i := gd) (by rw [totsTo_length]; exact hgn) rfl
                  rw [e] at hbo4
                  exact hbo4.ne hb (by decide) rfl
                have hd1' := Lib.hid hd1
                have hd2' := Lib.hid hd2
                clear hd1 hd2 hbl hbol hTl hT' hbo' h0 hB h0l hBl
                generalize wr.heap.size = wl at hbl4 hd1' ⊢
                obtain ⟨T0, hT0⟩ : ∃ T, tot s gd k m = T := ⟨_, rfl⟩
                rw [hT0] at hTR
                obtain ⟨hgb, ⟨cur, hblk⟩, c0, c1, c2, c3⟩ := totAt hT4 (i := gd) (by rw [totsTo_length]; exact hgn) ((totsTo_get _ _ _ _ _).trans hT0)
                have hf := hblk.frozen (gd * 4 + 1)
                have hwa : IntKind.i64.wrap (T0.held + kept s.holds k m) = T0.held + kept s.holds k m := IntWalk.i64_in _ (by omega)
                have hst := Own.store (i := gd) (j := 1) hT4 (fun _ => rfl) (by rw [totsTo_length]; exact hgn) (by omega) (y := ⟨T0.on, T0.held + kept s.holds k m, T0.back, T0.got⟩) (u := .int .i64 (T0.held + kept s.holds k m)) (by rw [totsTo_get, hT0]; rfl)
                have h05 := h04.setCell (p := ⟨g1, gd * 4 + 1, none⟩) hle.out (.int .i64 (T0.held + kept s.holds k m))
                have hl2 : (totsTo s n k m).length = n := totsTo_length _ _ _ _
                go_wp2_with (refine wpList_store_int rfl (.tmp 79) (.tmp 77) rfl rfl g1 (gd * 4 + 1) _ _ rfl rfl c1 hf (fun w5 hw5 => ?_); refine Hid.out ?_)
                unfold Hid
                rw [hw5] at hst h05
                have hbl5 := hbl4.grown hst.2 (by intro e; injection e with e; exact hd1'.out e)
                have hbo5 := hbo4.grown hst.2 (by intro e; injection e with e; exact hd2'.out e)
                clear hw5 c0 c1 c2 c3 hf hblk h04 h4 hwa hbl4 hbo4 hT4
                obtain ⟨_, ⟨cur, hblk⟩, c0, c1, c2, c3⟩ := totAt hst.1 (i := gd) (by rw [List.length_set, hl2]; exact hgn) (List.getElem_set_self _)
                have hf : w5.drew.frozen? ⟨g1, gd * 4 + 2, none⟩ = false := hblk.frozen (gd * 4 + 2)
                have hwa : IntKind.i64.wrap (T0.back + (s.line k m).back) = T0.back + (s.line k m).back := IntWalk.i64_in _ (by omega)
                have hst2 := Own.store (i := gd) (j := 2) hst.1.drew (fun _ => rfl) (by rw [List.length_set, hl2]; exact hgn) (by omega) (y := ⟨T0.on, T0.held + kept s.holds k m, T0.back + (s.line k m).back, T0.got⟩) (u := .int .i64 (T0.back + (s.line k m).back)) (by rw [List.getElem_set_self]; rfl)
                have h06 := h05.drew.setCell (p := ⟨g1, gd * 4 + 2, none⟩) hle.out (.int .i64 (T0.back + (s.line k m).back))
                have l3' := hbl5.cell (j := 3) rfl
                have l2' := hbl5.cell (j := 2) rfl
                go_wp2_with fail
                go_still_tail 9, (by kernel_rfl)
                change wpList _ _ _ _ _ w5.drew
                refine wpList_store_int rfl (.tmp 88) (.tmp 86) rfl rfl g1 (gd * 4 + 2) _ _ rfl rfl c2 hf (fun w6 hw6 => ?_)
                rw [hw6] at hst2 h06
                refine wpList_nil ?_
                have hbl6 := Blk.grown (w := w5.drew) hbl5 hst2.2 (by intro e; injection e with e; exact hd1'.out e)
                have hbo6 := Blk.grown (w := w5.drew) hbo5 hst2.2 (by intro e; injection e with e; exact hd2'.out e)
                clear hw6 c0 c1 c2 c3 hf hblk hwa hbl5 hbo5 h05 l3' l2'
                rw [List.set_set] at hst2
                obtain ⟨_, ⟨cur, hblk⟩, c0, c1, c2, c3⟩ := totAt hst2.1 (i := gd) (by rw [List.length_set, hl2]; exact hgn) (List.getElem_set_self _)
                have hf : w6.drew.frozen? ⟨g1, gd * 4 + 3, none⟩ = false := hblk.frozen (gd * 4 + 3)
                have hwa : IntKind.i64.wrap (T0.got + (s.line k m).got) = T0.got + (s.line k m).got := IntWalk.i64_in _ (by omega)
                have hst3 := Own.store (i := gd) (j := 3) hst2.1.drew (fun _ => rfl) (by rw [List.length_set, hl2]; exact hgn) (by omega) (y := ⟨T0.on, T0.held + kept s.holds k m, T0.back + (s.line k m).back, T0.got + (s.line k m).got⟩) (u := .int .i64 (T0.got + (s.line k m).got)) (by rw [List.getElem_set_self]; rfl)
                have h07 := h06.drew.setCell (p := ⟨g1, gd * 4 + 3, none⟩) hle.out (.int .i64 (T0.got + (s.line k m).got))
                have l2' := hbl6.cell (j := 2) rfl
                clear hst
                go_wp2_with fail
                go_still_tail 9, (by kernel_rfl)
                change wpList _ _ _ _ _ w6.drew
                refine wpList_store_int rfl (.tmp 97) (.tmp 95) rfl rfl g1 (gd * 4 + 3) _ _ rfl rfl c3 hf (fun w7 hw7 => ?_)
                rw [hw7] at hst3 h07
                refine wpList_nil ?_
                have hbo7 := Blk.grown (w := w6.drew) hbo6 hst3.2 (by intro e; injection e with e; exact hd2'.out e)
                rw [List.set_set] at hst3
                have hfin := Lib.hid (show totsTo s n k (m + 1) = (totsTo s n k m).set gd ⟨T0.on, T0.held + kept s.holds k m, T0.back + (s.line k m).back, T0.got + (s.line k m).got⟩ by rw [← hT0]; exact totsTo_line s n k m hgd hgn)
                clear hw7 c0 c1 c2 c3 hf hblk hwa hbl6 hbo6 h06 l2' hst2
                go_wp2_with fail
                go_roundw
                case rel => exact ⟨m + 1, by omega, by go_num, by rw [hfin.out]; exact hst3.1, h07, hbo7⟩
                case measure => simp [intOf]; omega
              · obtain rfl : m = (orderAt s.orders k).lines.length := by omega
                go_wp2_with fail
                go_roundw
                case rel => exact ⟨k + 1, by omega, by go_num, by rw [totsTo_order]; exact hT'.out, h0⟩
                case measure => simp [intOf]; omega
          · obtain rfl : k = s.orders.length := by omega
            go_wp2_with fail
            go_ret2
            exact ⟨.slice (some ⟨g1, 0, none⟩) n n, by rw [hc'.out]; rfl, by rw [hE.out]; unfold totalsF; rw [hn]; exact hT'.out, hB⟩
  · have hne : (checkState p s != 0) = true := by simpa using hc
    have hc' := Lib.hid hc
    clear hc
    go_wp2_with fail
    go_ret2
    exact ⟨.slice none 0 0, rfl, by rw [totalsE_bad hc'.out]; exact Own.nil, hB1⟩

set_option maxHeartbeats 4000000 in
theorem bkOpen (w : World) (v vs : Value) (p : Plan) (s : State) (hp : PlanV w w.heap.size v p) (hv : StateV w w.heap.size vs s) :
    Calls Try.prog 34 #[v, vs] w fun e w' => e = .returned (.tuple #[.int .i64 (openE p s).1, .int .i64 (openE p s).2]) ∧ Below w.heap.size w w' := by
  obtain ⟨Ab, cb, As, cs, rfl, hP', hBn, hSz, hlb, hls⟩ := openPl hp
  obtain ⟨A0, c0, A1, c1, A2, c2, A3, c3, A4, c4, A5, c5, A6, c6, rfl, hV, hN, hO, hH, hM, hI, hU, hX, hl0, hl1, hl2, hl3, hl4, hl5, hl6⟩ := openOne hv
  go_enter Try.func34, Try.ntmps34
  go_wp2_with fail
  obtain ⟨W0, hW0, hb0, hsz0, hsz1, hsE, hK⟩ := boxesTwo w p s Ab cb As cs A0 c0 A1 c1 A2 c2 A3 c3 A4 c4 A5 c5 A6 c6
  rw [hW0]
  clear hW0
  obtain ⟨⟨y0, y1⟩, x0, x1, x2, x3, x4, x5, x6, hbz0, hbz1⟩ := hK.out W0 (Below.refl W0.heap.size W0)
  go_wp2_with fail
  clear y0 y1 x0 x1 x2 x3 x4 x5 x6 hbz0 hbz1
  refine (sCheck _ _ _ p s (hP'.out _ hb0) (hV.out _ hb0)).mono ?_
  rintro e W1 ⟨rfl, h1⟩
  have hB1 := hb0.trans (h1.mono hb0.size)
  obtain ⟨⟨y0, y1⟩, x0, x1, x2, x3, x4, x5, x6, hbz0, hbz1⟩ := hK.out W1 (h1)
  by_cases hc : checkState p s = 0
  · have hE := Lib.hid (openE_ok hc)
    have h4 := (checkState_zero.1 hc).1.orders4
    rw [hc]
    clear hc
    go_wp2_with fail
    clear y0 y1 x0 x1 x2 x3 x4 x5 x6 hbz0 hbz1
    go_loopw [19, 7, 9] (fun i n _ wr => ∃ k : Nat, k ≤ s.orders.length ∧ i = .int .i64 k ∧ n = .int .i64 (openTo s k) ∧ Below W0.heap.size W0 wr) (fun i _ _ _ => s.orders.length - (intOf i).toNat)
    case atStart => exact ⟨0, Nat.zero_le _, rfl, rfl, h1⟩
    case round =>
      clear h1 hB1
      obtain ⟨k, hk, rfl, rfl, h0⟩ := hrel
      have hB := hb0.trans (h0.mono hb0.size)
      obtain ⟨⟨y0, y1⟩, x0, x1, x2, x3, x4, x5, x6, hbz0, hbz1⟩ := hK.out wr (h0)
      by_cases hlt : k < s.orders.length
      · have hki : (k : Int) < (s.orders.length : Int) := by omega
        obtain ⟨A', c', hok1, hAb1, d0, d1, hsl⟩ := (hO.out wr hB).order hlt
        have h0o := h0.alloc h0.size (.cells #[.int .i64 (orderAt s.orders k).kind, .slice A' (orderAt s.orders k).lines.length c'] 53)
        have hr := openTo_range s k
        have hs' := openTo_succ s k
        by_cases hkd : (orderAt s.orders k).kind = 2
        · have hq : ((orderAt s.orders k).kind != 2) = false := by simpa using hkd
          rw [if_pos hkd, Int.add_zero] at hs'
          have hs2 := Lib.hid hs'
          clear hkd hs'
          go_wp2_with fail
          go_roundw
          case rel => exact ⟨k + 1, by omega, by go_num, by rw [hs2.out], h0o⟩
          case measure => simp [intOf]; omega
        · have hq : ((orderAt s.orders k).kind != 2) = true := by simpa using hkd
          rw [if_neg hkd] at hs'
          have hs2 := Lib.hid hs'
          have hw1 : IntKind.i64.wrap (openTo s k + 1) = openTo s k + 1 := IntWalk.i64_in _ (by omega)
          clear hkd hs'
          go_wp2_with fail
          go_roundw
          case rel => exact ⟨k + 1, by omega, by go_num, by rw [hs2.out], h0o⟩
          case measure => simp [intOf]; omega
      · obtain rfl : k = s.orders.length := by omega
        go_wp2_with fail
        go_ret2
        exact ⟨by rw [hE.out]; rfl, hB⟩
  · have hne : (checkState p s != 0) = true := by simpa using hc
    have hE := Lib.hid (openE_bad hc)
    clear hc
    go_wp2_with fail
    go_ret2
    exact ⟨by rw [hE.out]; rfl, hB1⟩
end Wh
namespace Wh
open Go Go.RowKit Go.Shelf Go.Proofs
attribute [local go_sem] run_indexAt_letter evL_tmp evL_const evL_func

theorem struct_eql {P : Program} {t : TypeId} (hS : P.underlying t = some (.struct (P.fieldsOf t))) (hp : P.stoodInHeld t = false) (xs ys : Array Value) (b : Bool) (h : ∀ w, (Op.eqFields 9999 xs ys (P.fieldsOf t).toList).run P w = .ok b w) (w : World) :
    (binOp .eql t (.agg xs) (.agg ys)).run P w = .ok (.bool b) w := by
  rw [run_eql_struct, show (10000 : Nat) = 9999 + 1 from rfl, run_equalIn_agg w 9999 t _ _ hS hp, h]
  rfl
theorem total_eq (x y : Total) : x = y ↔ x.on = y.on ∧ x.held = y.held ∧ x.back = y.back ∧ x.got = y.got := by cases x; cases y; simp
theorem eqlTotal (x y : Total) (w : World) : (binOp .eql 103 (.agg #[.int .i64 x.on, .int .i64 x.held, .int .i64 x.back, .int .i64 x.got]) (.agg #[.int .i64 y.on, .int .i64 y.held, .int .i64 y.back, .int .i64 y.got])).run Try.prog w = .ok (.bool (decide (x = y))) w := by
  refine struct_eql (by kernel_rfl) (by kernel_rfl) _ _ _ (fun w => ?_) w
  have u3 := Try.underlying3
  have a3 := Try.isAgg3
  have z3 := Try.sizeOf3
  simp only [Program.fieldsOf, Try.underlying103]
  go_simp
  by_cases h1 : x.on = y.on <;> by_cases h2 : x.held = y.held <;> by_cases h3 : x.back = y.back <;> by_cases h4 : x.got = y.got <;> simp [h1, h2, h3, h4, total_eq]
theorem begTot : totalsE yardP busyS = [⟨12, 5, 0, 1⟩, ⟨6, 6, 3, 0⟩] := by decide
theorem begOpen : openE yardP busyS = (2, 0) := by decide
theorem begCheck : checkState yardP busyS = 0 := by decide
set_option maxHeartbeats 4000000 in
set_option maxRecDepth 100000 in
theorem bookBegun (w : World) : Calls Try.prog 33 #[] w fun e w' => e = .returned (.bool true) ∧ Below w.heap.size w w' := by
  go_enter Try.func33, Try.ntmps33
  go_wp2_with fail
  refine (lYard _).mono ?_
  rintro e W1 ⟨u1, rfl, hu1, hb1⟩
  go_wp2_with fail
  refine (lBusy _).mono ?_
  rintro e W2 ⟨V2, rfl, ho2, hb2⟩
  go_wp2_with fail
  refine (bkTotals _ _ _ yardP busyS (hu1.grow hb2) (ho2.view0 (by decide))).mono ?_
  rintro e W3 ⟨u3, rfl, hT3, hb3⟩
  rw [begCheck]
  rw [begTot] at hT3
  have hB3 := hb1.trans ((hb2.trans (hb3.mono hb2.size)).mono hb1.size)
  obtain ⟨g, c, _, rfl, hgb, hblk, _⟩ := hT3.row (by simp)
  have hT3' := Lib.hid hT3
  have hg3 := hblk.lt
  clear hT3 hblk
  go_wp2_with fail
  refine (lYard _).mono ?_
  rintro e W4 ⟨u4, rfl, hu4, hb4⟩
  go_wp2_with fail
  refine (lBusy _).mono ?_
  rintro e W5 ⟨V5, rfl, ho5, hb5⟩
  go_wp2_with fail
  refine (bkOpen _ _ _ yardP busyS (hu4.grow hb5) (ho5.view0 (by decide))).mono ?_
  rintro e W6 ⟨rfl, hb6⟩
  rw [begOpen]
  have h36 := hb4.trans ((hb5.trans (hb6.mono hb5.size)).mono hb4.size)
  have hB6 := hB3.trans (h36.mono hB3.size)
  have hT6 := hT3'.out.below h36
  obtain ⟨_, _, c0, c1, c2, c3⟩ := totAt hT6 (i := 0) (by decide) rfl
  obtain ⟨_, _, d0, d1, d2, d3⟩ := totAt hT6 (i := 1) (by decide) rfl
  simp only [Nat.zero_mul, Nat.zero_add, Nat.one_mul, List.getElem_cons_zero, List.getElem_cons_succ] at c0 c1 c2 c3 d0 d1 d2 d3
  have hq := eqlTotal
  have q1 : decide ((⟨12, 5, 0, 1⟩ : Total) = ⟨12, 5, 0, 1⟩) = true := by decide
  have q2 : decide ((⟨6, 6, 3, 0⟩ : Total) = ⟨6, 6, 3, 0⟩) = true := by decide
  have e1 := eqlTotal ⟨12, 5, 0, 1⟩ ⟨12, 5, 0, 1⟩
  have e2 := eqlTotal ⟨6, 6, 3, 0⟩ ⟨6, 6, 3, 0⟩
  rw [q1] at e1
  rw [q2] at e2
  have hgd : Try.prog.eqGuardType Try.prog.depth 103 = false := by kernel_rfl
  clear hq q1 q2 hT6 h36 hu1 hu4 ho2 ho5
  go_wp2_with fail
  go_ret
  exact ⟨rfl, hB6⟩

end Wh
namespace Wh

/-- Things that have a number, of which some may be cut. -/
structure Cutter (α : Type) where
  is : α → Bool
  num : α → Int
  put : α → Int → α
  num_put : ∀ x n, num (put x n) = n
  is_put : ∀ x n, is (put x n) = is x
  put_put : ∀ x n m, put (put x n) m = put x m
  put_num : ∀ x, put x (num x) = x

namespace Cutter
variable {α : Type} (C : Cutter α)
def part (x : α) : Int := if C.is x = true then C.num x else 0
def all (l : List α) : Int := (l.map C.part).sum
def less (v n : Int) : Int := min n (max v 0)
/-- From behind: as many as may be taken away; what is still over. -/
def cut : List α → Int → List α × Int
  | [], v => ([], v)
  | x :: r, v => if C.is x = true then (C.put x (C.num x - less (cut r v).2 (C.num x)) :: (cut r v).1, (cut r v).2 - less (cut r v).2 (C.num x)) else (x :: (cut r v).1, (cut r v).2)
def keep (x : α) : Bool := !decide (C.num x = 0)
def rest (l : List α) (v : Int) : List α := (C.cut l v).1.filter C.keep
def Pos (l : List α) : Prop := ∀ x ∈ l, 1 ≤ C.num x

variable {C}
theorem Pos.cons {x : α} {r : List α} (h : C.Pos (x :: r)) : 1 ≤ C.num x ∧ C.Pos r := ⟨h x (List.mem_cons_self ..), fun y hy => h y (List.mem_cons_of_mem _ hy)⟩
theorem all_cons (x : α) (r : List α) : C.all (x :: r) = C.part x + C.all r := by unfold all; rw [List.map_cons, List.sum_cons]
end Cutter
end Wh
namespace Wh

namespace Cutter
variable {α β : Type} {C : Cutter α}
end Cutter

section
variable {p : Plan} {s : State} {b g : Nat} {seen v : Int}
/-- How many pieces are too many. -/
def over (s : State) (b g : Nat) (seen : Int) : Int := max (bound s b g - seen) 0
end
end Wh
namespace Wh

/-- t is what comes of s by holding for the lines of S, but not in bin b. -/
structure Took (p : Plan) (b : Nat) (S : Nat → Nat → Prop) (s t : State) : Prop where
  right : Right p t
  on : t.on = s.on
  moves : t.moves = s.moves
  inn : t.inn = s.inn
  out : t.out = s.out
  fixed : t.fixed = s.fixed
  orders : t.orders.length = s.orders.length
  kind : ∀ o, (t.order o).kind = (s.order o).kind
  lines : ∀ o, (t.order o).lines.length = (s.order o).lines.length
  line : ∀ o k, (t.line o k).good = (s.line o k).good ∧ (t.line o k).want = (s.line o k).want ∧ (t.line o k).got = (s.line o k).got
  bnd : ∀ g : Int, bound t b g = bound s b g
  back : ∀ o k, ¬ S o k → (t.line o k).back = (s.line o k).back
namespace Took
variable {p : Plan} {b : Nat} {S S' : Nat → Nat → Prop} {s t u : State}
theorem refl (h : Right p s) : Took p b S s s := ⟨h, rfl, rfl, rfl, rfl, rfl, rfl, fun _ => rfl, fun _ => rfl, fun _ _ => ⟨rfl, rfl, rfl⟩, fun _ => rfl, fun _ _ _ => rfl⟩
theorem mono (h : Took p b S s t) (hS : ∀ o k, S o k → S' o k) : Took p b S' s t := { h with back := fun o k hn => h.back o k fun hs => hn (hS o k hs) }
theorem trans (h : Took p b S s t) (h' : Took p b S' t u) : Took p b (fun o k => S o k ∨ S' o k) s u := by
  refine ⟨h'.right, h'.on.trans h.on, h'.moves.trans h.moves, h'.inn.trans h.inn, h'.out.trans h.out, h'.fixed.trans h.fixed, h'.orders.trans h.orders, fun o => (h'.kind o).trans (h.kind o), fun o => (h'.lines o).trans (h.lines o), fun o k => ?_, fun g => (h'.bnd g).trans (h.bnd g), fun o k hn => ?_⟩
  · obtain ⟨a1, a2, a3⟩ := h.line o k
    obtain ⟨b1, b2, b3⟩ := h'.line o k
    exact ⟨b1.trans a1, b2.trans a2, b3.trans a3⟩
  · exact (h'.back o k fun hs => hn (.inr hs)).trans (h.back o k fun hs => hn (.inl hs))
theorem one {o k : Nat} {n : Int} (h : Right p s) (hm : n = 0 ∨ May s o k n) : Took p b (fun o' k' => o' = o ∧ k' = k) s (takeS p s o k n b).1 := by
  rcases hm with rfl | hm
  · have : takeS p s o k 0 b = (s, 0) := takeGo_zero (by omega)
    rw [this]
    exact refl h
  · obtain ⟨h1, _, _⟩ := takeS_held (but := b) h hm
    exact ⟨h1.right, h1.on, h1.moves, h1.inn, h1.out, h1.fixed, h1.orders, h1.kind, h1.lines, h1.line, fun g => takeS_but h hm g, fun o' k' hn => by rw [h1.back, if_neg hn, Int.sub_zero]⟩
theorem may (h : Took p b S s t) {o k : Nat} {n : Int} (hn : ¬ S o k) (hm : n = 0 ∨ May s o k n) : n = 0 ∨ May t o k n := by
  rcases hm with hm | hm
  · exact .inl hm
  · exact .inr ⟨by rw [h.orders]; exact hm.ho, by rw [h.lines]; exact hm.hk, by rw [h.kind]; exact hm.kind, hm.n0, by rw [h.back o k hn]; exact hm.back⟩
theorem check (h : Took p b S s t) (hs : checkState p s = 0) : checkState p t = 0 := by
  refine check_iff.2 ⟨h.right, fun o ho => ?_⟩
  rw [h.orders] at ho
  have := (check_iff.1 hs).2 o ho
  rw [h.kind]
  rintro ⟨h1, h2⟩
  refine this ⟨h1, allGot_iff.2 fun k hk => ?_⟩
  have h3 := allGot_iff.1 h2 k (by rw [h.lines]; exact hk)
  have h4 := h.line o k
  unfold State.line at h4
  rw [h4.2.1, h4.2.2] at h3
  exact h3
end Took

section
variable {p : Plan} {s : State} {b g : Nat} {seen v : Int} {n : Nat → Nat → Int}
end
section
variable {p : Plan} {s : State} {b g n : Int}
end
end Wh
namespace Wh

-- what was got of a good, in all
section
variable {p : Plan} {s : State}
-- what is held of a good lies there
theorem sumTo_le {f g : Nat → Int} {n : Nat} (h : ∀ k, k < n → f k ≤ g k) : sumTo f n ≤ sumTo g n := by
  induction n with
  | zero => exact Int.le_refl _
  | succ n ih =>
    have h1 := ih fun k hk => h k (by omega)
    have h2 := h n (by omega)
    show sumTo f n + f n ≤ sumTo g n + g n
    omega
end
end Wh
namespace Wh

/-- A state of which no order is merely entered. -/
structure Rel1 (p : Plan) (s : State) : Prop where
  check : checkState p s = 0
  kind : ∀ o, o < s.orders.length → (s.order o).kind ≠ 0
section
variable {p : Plan} {s : State}
theorem rel_release (h : checkState p s = 0) : Rel1 p (releaseS p s) := ⟨release_check h, fun o ho => release_kind h (by rw [← release_len h]; exact ho)⟩
theorem take_none0 (p : Plan) (s : State) (o k : Nat) (but : Int) : takeS p s o k 0 but = (s, 0) := takeGo_zero (by omega)
/-- The first hold is picked whole. -/
theorem pick_first (h : Rel1 p s) (hl : 0 < s.holds.length) {x : Hold} (hx : hold s.holds 0 = x) : (pick p s x.order x.line x.bin x.n).2 = 2 ∨
    ((pick p s x.order x.line x.bin x.n).2 = 0 ∧ (pick p s x.order x.line x.bin x.n).1.holds.length = s.holds.length - 1 ∧ Rel1 p (pick p s x.order x.line x.bin x.n).1) := by
  have hr := right_of_check h.check
  have hs := hr.sane
  obtain ⟨h1, h2⟩ := holdsOk_iff.1 hs.holds
  have hmem : x ∈ s.holds := by rw [← hx, hold_get hl]; exact List.getElem_mem hl
  have hk := keptAt_mem h1 h2 hmem
  have hf := fine_iff.1 (h1 x hmem)
  by_cases hm : (pick p s x.order x.line x.bin x.n).2 = 2
  · exact .inl hm
  · have h0 : (pick p s x.order x.line x.bin x.n).2 = 0 := by
      unfold pick at hm ⊢
      rw [if_neg (fun hn => hn h.check), hk, if_neg (by omega), if_neg (by rw [within_iff.2 ⟨by omega, Int.le_refl _⟩]; simp)] at hm ⊢
      split at hm
      · exact absurd rfl hm
      · rename_i h3; rw [if_neg h3]
    obtain ⟨_, i, j, c, e1, e2, e3, f, e⟩ := pick_right h0
    refine .inr ⟨h0, ?_, ?_⟩
    · rw [e, pickS_eq, (close_rest _ i).2.1]
      have e4 : keptAt s.holds i j c - x.n = 0 := by rw [← e1, ← e2, ← e3, hk]; omega
      unfold pickT
      rw [e4, take_none0]
      show (withHold s.holds ⟨i, j, c, 0⟩).length = _
      have hp : pos s.holds x = 0 := pos_eq (Nat.zero_le _) (fun i hi => by omega) (fun _ => by rw [hx]; exact Int.le_of_eq (ord_zero.2 ⟨rfl, rfl, rfl⟩).symm)
      have hfd : found s.holds x = true := found_iff.2 ⟨by rw [hp]; exact hl, by rw [hp, hx]; exact ord_zero.2 ⟨rfl, rfl, rfl⟩⟩
      have e5 : withHold s.holds ⟨i, j, c, 0⟩ = withHold s.holds { x with n := 0 } := by rw [← e1, ← e2, ← e3]
      rw [e5, with_less hs.holds (h := { x with n := 0 }) hf.1 rfl (by rw [found_n]; exact hfd), pos_n, hp, List.length_eraseIdx, if_pos hl]
    · rw [e]
      obtain ⟨a1, a2, a3, a4, a5, a6⟩ := pickS_true h.check f
      obtain ⟨ht, _, _⟩ := pickT_held hr f
      refine ⟨a1, fun o ho => ?_⟩
      rw [a2] at ho
      have hot : i < (pickT p s i j c x.n).orders.length := by rw [ht.orders, picked_orders]; exact f.ho
      rw [pickS_eq, close_order _ i hot]
      split
      · simp only; omega
      · rw [ht.kind, picked_kind f]
        exact h.kind o ho
theorem kept_nil (o k : Int) : kept [] o k = 0 := rfl
/-- What lacks of an order that is not closed. -/
theorem rel_done (h : Rel1 p s) (hl : s.holds = []) {o : Nat} (ho : o < s.orders.length) (hk : (s.order o).kind ≠ 2) : 0 < sumTo (fun k => (s.line o k).back) (s.order o).lines.length := by
  obtain ⟨hr, hgot⟩ := check_iff.1 h.check
  have hs := hr.sane
  have h1 := hs.kind ho
  have h2 := h.kind o ho
  have h3 := hgot o ho
  have h4 : (s.order o).kind = 1 := by omega
  have h5 : ¬ allGot (s.order o) = true := fun e => h3 ⟨h4, e⟩
  rw [allGot_iff] at h5
  have hb : ∀ k, k < (s.order o).lines.length → 0 ≤ (s.line o k).back ∧ (s.line o k).got + (s.line o k).back = (s.line o k).want := fun k hk' => by
    have a := hs.line ho hk'
    have b := (hr.lineSum ho hk').1
    rw [if_neg h2, hl] at b
    rw [kept_nil] at b
    exact ⟨a.2.2.2.1, by omega⟩
  refine Classical.byContradiction fun hn => h5 fun k hk' => ?_
  have hle : ∀ n, n ≤ (s.order o).lines.length → 0 ≤ sumTo (fun k => (s.line o k).back) n := fun n hn' => by
    have := sumTo_le (f := fun _ => (0 : Int)) (g := fun k => (s.line o k).back) (n := n) (fun k hk => (hb k (by omega)).1)
    rw [sumTo_zero (fun _ _ => rfl)] at this
    exact this
  have key : ∀ n, n ≤ (s.order o).lines.length → k < n → (s.line o k).back ≤ sumTo (fun k => (s.line o k).back) n := by
    intro n
    induction n with
    | zero => intro _ h; omega
    | succ n ih =>
      intro hn' hkn
      show _ ≤ sumTo (fun k => (s.line o k).back) n + (s.line o n).back
      by_cases e : k = n
      · subst e
        have := hle k (by omega)
        omega
      · have := ih (by omega) (by omega)
        have := (hb n (by omega)).1
        omega
  have h6 := key _ (Nat.le_refl _) hk'
  have h7 := hb k hk'
  show (s.line o k).got = (s.line o k).want
  omega
end
end Wh
