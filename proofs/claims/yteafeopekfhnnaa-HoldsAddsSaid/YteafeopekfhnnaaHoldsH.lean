/- R.AddOf, R.DropOf: walks -/
import Derived.Test.YteafeopekfhnnaaHoldsG
namespace Wh
open Go Go.RowKit Go.Shelf Go.Proofs
attribute [local go_sem] run_indexAt_letter

theorem dropOf_none {l : List Hold} {o ln b : Int} (h : holdsOk l = true) (hk : keptAt l o ln b = 0) : drop l o ln b = ([], 0, 4) := by
  unfold drop
  rw [h, if_neg (by simp), if_pos hk]
theorem dropOf_yes {l : List Hold} {o ln b : Int} (h : holdsOk l = true) (hk : keptAt l o ln b ≠ 0) : drop l o ln b = (withHold l ⟨o, ln, b, 0⟩, keptAt l o ln b, 0) := by
  unfold drop
  rw [h, if_neg (by simp), if_neg hk]

set_option maxHeartbeats 2000000 in
theorem rDropOf (w : World) (v : Value) (l : List Hold) (o ln b : Int) (hv : Sl cHold w w.heap.size v l) :
    Calls Try.prog 31 #[v, .int .i64 o, .int .i64 ln, .int .i64 b] w (DropPost l o ln b w) := by
  have hV := hv
  obtain ⟨A, c, rfl, hl, hA⟩ := hv
  go_enter Try.func31, Try.ntmps31
  go_wp2_with fail
  refine (rCheckHolds _ _ _ hV).mono ?_
  rintro e W1 ⟨rfl, hb1⟩
  cases hok : holdsOk l
  · have hfin := Lib.hid (drop_bad (o := o) (ln := ln) (b := b) hok)
    have hc : checkHolds l = 1 := by unfold checkHolds; rw [hok]; rfl
    rw [hc]
    clear hc hok
    go_wp2_with fail
    go_ret3
    exact ⟨_, by rw [hfin.out]; rfl, by rw [hfin.out]; exact Own.nil, hb1⟩
  · have hc : checkHolds l = 0 := check_ok.2 hok
    obtain ⟨g1, g2⟩ := holdsOk_iff.1 hok
    have hkey := @keptAt_key l g1 g2 o ln b
    rw [hc]
    clear hc
    have hok' := Lib.hid hok
    have hkey' := Lib.hid hkey
    clear hok hkey g1 g2
    go_wp2_with fail
    refine (rKeptAt _ _ l o ln b (hV.grow hb1)).mono ?_
    rintro e w' ⟨rfl, rfl⟩
    by_cases hk : keptAt l o ln b = 0
    · have hfin := Lib.hid (dropOf_none hok'.out hk)
      rw [hk]
      clear hk
      go_wp2_with fail
      go_ret3
      exact ⟨_, by rw [hfin.out]; rfl, by rw [hfin.out]; exact Own.nil, hb1⟩
    · have hfin := Lib.hid (dropOf_yes hok'.out hk)
      have hkb : (keptAt l o ln b == 0) = false := by simpa using hk
      have hkk := Lib.hid (hkey'.out hk).1
      clear hk
      go_wp2_with fail
      refine (rWith _ _ l o ln b 0 (hV.grow hb1) hok'.out hkk.out).mono ?_
      rintro e W2 ⟨u, rfl, hu, hb2⟩
      go_wp2_with fail
      go_ret3
      exact ⟨_, by rw [hfin.out]; rfl, by rw [hfin.out]; exact hu.from_ hb1.size, hb1.trans (hb2.mono hb1.size)⟩

theorem addOf_full {l : List Hold} {h : Hold} (h1 : holdsOk l = true) (h2 : holdFine h = true) (hn : 200 < keptAt l h.order h.line h.bin + h.n) : add l h = ([], 3) := by
  unfold add
  rw [h1, h2, if_neg (by simp), if_neg (by simp), if_pos hn]
theorem addOf_more {l : List Hold} {h : Hold} (h1 : holdsOk l = true) (h2 : holdFine h = true) (hn : ¬ 200 < keptAt l h.order h.line h.bin + h.n) :
    add l h = (withHold l ⟨h.order, h.line, h.bin, keptAt l h.order h.line h.bin + h.n⟩, 0) := by
  unfold add
  rw [h1, h2, if_neg (by simp), if_neg (by simp), if_neg hn]

set_option maxHeartbeats 2000000 in
theorem rAddOf (w : World) (v : Value) (l : List Hold) (h : Hold) (hv : Sl cHold w w.heap.size v l) :
    Calls Try.prog 38 #[v, vHold h] w (AddPost l h w) := by
  have hV := hv
  obtain ⟨A, c, rfl, hl, hA⟩ := hv
  have hb0 : Below w.heap.size w (w.alloc (.cells #[.int .i64 (h).order, .int .i64 (h).line, .int .i64 (h).bin, .int .i64 (h).n] 58)) := (Below.refl _ _).alloc (Nat.le_refl _) _
  unfold vHold
  go_enter Try.func38, Try.ntmps38
  go_wp2_with fail
  refine (rCheckHolds _ _ _ (hV.grow hb0)).mono ?_
  rintro e W1 ⟨rfl, hb1⟩
  have hb01 := hb0.trans (hb1.mono hb0.size)
  obtain ⟨hc1, hf1⟩ := bcell hb1
  cases hok : holdsOk l
  · have hfin := Lib.hid (add_bad (h := h) (.inl hok))
    have hc : checkHolds l = 1 := by unfold checkHolds; rw [hok]; rfl
    rw [hc]
    clear hc hok
    go_wp2_with fail
    go_ret2
    exact ⟨_, by rw [hfin.out]; rfl, by rw [hfin.out]; exact Own.nil, hb01⟩
  · have hc : checkHolds l = 0 := check_ok.2 hok
    obtain ⟨g1, g2⟩ := holdsOk_iff.1 hok
    obtain ⟨r1, r2⟩ := keptAt_range g1 g2 h.order h.line h.bin
    rw [hc]
    clear hc g1 g2
    have hok' := Lib.hid hok
    clear hok
    go_wp2_with fail
    refine (rHoldFine h _).mono ?_
    rintro e W2 ⟨rfl, hb2⟩
    have hb12 := hb1.trans (hb2.mono hb1.size)
    have hb02 := hb0.trans (hb12.mono hb0.size)
    obtain ⟨hc2, hf2⟩ := bcell hb12
    clear hc1 hf1
    cases hfi : holdFine h
    · have hfin := Lib.hid (add_bad (l := l) (.inr hfi))
      go_wp2_with fail
      go_ret2
      exact ⟨_, by rw [hfin.out]; rfl, by rw [hfin.out]; exact Own.nil, hb02⟩
    · have hfi' := Lib.hid hfi
      obtain ⟨k1, k2, k3⟩ := fine_iff.1 hfi
      have hk1 := Lib.hid k1
      have hlt2 : w.heap.size < W2.heap.size := by have := hb12.size; simp at this; omega
      obtain ⟨y0, y1, y2, y3⟩ : W2.cell? ⟨w.heap.size, 0, none⟩ = some (.int .i64 h.order) ∧ W2.cell? ⟨w.heap.size, 1, none⟩ = some (.int .i64 h.line) ∧ W2.cell? ⟨w.heap.size, 2, none⟩ = some (.int .i64 h.bin) ∧ W2.cell? ⟨w.heap.size, 3, none⟩ = some (.int .i64 h.n) :=
        ⟨(hc2 _ _ (by simp)).trans (by simp), (hc2 _ _ (by simp)).trans (by simp), (hc2 _ _ (by simp)).trans (by simp), (hc2 _ _ (by simp)).trans (by simp)⟩
      have q0 := fun o d os => cells_wld (w := W2) (b := w.heap.size) hlt2 o d os
      have hw1 : IntKind.i64.wrap (keptAt l h.order h.line h.bin + h.n) = keptAt l h.order h.line h.bin + h.n := by rw [IntKind.wrap_i64]; omega
      clear hc2 hf2 hb1 hb2 hb12 hfi k1
      go_wp2_with fail
      refine wp_region_wld (by kernel_rfl) (by kernel_rfl) ?_
      repeat (go_big_quiet_step ((go_at_call 57; refine calls_wld_same (rKeptAt _ _ l h.order h.line h.bin ((hV.grow hb02).grow (below_wld _ _ _))))))
      refine wpQuiet_nil ?_
      intro W3 hw'
      have hb3 := below_of_cls hw'
      clear hw'
      have hb03 := hb02.trans (hb3.mono hb02.size)
      have hd3 := hb3
      clear hw1
      obtain ⟨x0, x1, x2, x3⟩ : W3.cell? ⟨w.heap.size, 0, none⟩ = some (.int .i64 h.order) ∧ W3.cell? ⟨w.heap.size, 1, none⟩ = some (.int .i64 h.line) ∧ W3.cell? ⟨w.heap.size, 2, none⟩ = some (.int .i64 h.bin) ∧ W3.cell? ⟨w.heap.size, 3, none⟩ = some (.int .i64 h.n) :=
        ⟨(hd3.cell (p := ⟨w.heap.size, 0, none⟩) hlt2).trans y0, (hd3.cell (p := ⟨w.heap.size, 1, none⟩) hlt2).trans y1, (hd3.cell (p := ⟨w.heap.size, 2, none⟩) hlt2).trans y2, (hd3.cell (p := ⟨w.heap.size, 3, none⟩) hlt2).trans y3⟩
      clear q0 y0 y1 y2 y3
      by_cases hn : 200 < keptAt l h.order h.line h.bin + h.n
      · have hfin := Lib.hid (addOf_full hok'.out hfi'.out hn)
        go_wp2_with fail
        go_ret2
        exact ⟨_, by rw [hfin.out]; rfl, by rw [hfin.out]; exact Own.nil, hb03⟩
      · have hfin := Lib.hid (addOf_more hok'.out hfi'.out hn)
        go_wp2_with fail
        refine (rWith _ _ l h.order h.line h.bin (keptAt l h.order h.line h.bin + h.n) (hV.grow hb03) hok'.out hk1.out).mono ?_
        rintro e W4 ⟨u, rfl, hu, hb4⟩
        go_wp2_with fail
        go_ret2
        exact ⟨_, by rw [hfin.out]; rfl, by rw [hfin.out]; exact hu.from_ hb03.size, hb03.trans (hb4.mono hb03.size)⟩
end Wh
