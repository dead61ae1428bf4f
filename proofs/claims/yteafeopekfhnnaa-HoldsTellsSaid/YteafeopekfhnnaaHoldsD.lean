/- slices.BinarySearchFunc, holds.find: walks -/
import Derived.Test.YteafeopekfhnnaaHoldsC
namespace Wh
open Go Go.RowKit Go.Shelf Go.Proofs
attribute [local go_sem] run_indexAt_letter

theorem pos_eq' {l : List Hold} {h : Hold} {k : Nat} (hk : k ≤ l.length) (h1 : ∀ i, i < k → ord (hold l i) h < 0) (h2 : ∀ i, k ≤ i → i < l.length → 0 ≤ ord (hold l i) h) : pos l h = k :=
  pos_eq hk h1 (fun hk' => h2 k (Nat.le_refl _) hk')

set_option maxHeartbeats 2000000 in
theorem slSearch (w : World) (v : Value) (l : List Hold) (x : Hold) (hv : Sl cHold w w.heap.size v l) (hok : holdsOk l = true) (hn : l.length ≤ 1000000) :
    Calls Try.prog 69 #[v, vHold x, .func (.func 62) #[] #[]] w fun e w' => e = .returned (.tuple #[.int .i64 (pos l x), .bool (found l x)]) ∧ Below w.heap.size w w' := by
  obtain ⟨A, c, rfl, _, hA⟩ := hv
  have hless := Lib.hid (fun (i j : Nat) (hij : i ≤ j) (hj : j < l.length) (h : ord (hold l j) x < 0) => ok_less hok hij hj h)
  have hok' := Lib.hid hok
  clear hok
  have hb0 : Below w.heap.size w (w.alloc (.cells #[.int .i64 (x).order, .int .i64 (x).line, .int .i64 (x).bin, .int .i64 (x).n] 58)) := (Below.refl _ _).alloc (Nat.le_refl _) _
  unfold vHold
  go_enter Try.func69, Try.ntmps69
  go_wp2_with fail
  obtain ⟨W0, hW0⟩ : ∃ W0, W0 = w.alloc (.cells #[.int .i64 (x).order, .int .i64 (x).line, .int .i64 (x).bin, .int .i64 (x).n] 58) := ⟨_, rfl⟩
  rw [← hW0] at hb0 ⊢
  have z0 : W0.cell? ⟨w.heap.size, 0, none⟩ = some (.int .i64 x.order) ∧ W0.cell? ⟨w.heap.size, 1, none⟩ = some (.int .i64 x.line) ∧ W0.cell? ⟨w.heap.size, 2, none⟩ = some (.int .i64 x.bin) ∧ W0.cell? ⟨w.heap.size, 3, none⟩ = some (.int .i64 x.n) := by rw [hW0]; simp
  have hsz : w.heap.size < W0.heap.size := by rw [hW0]; simp
  clear hW0
  obtain ⟨z0, z1, z2, z3⟩ := z0
  go_loopw [9, 10, 11] (fun i j _ wr => ∃ a b : Nat, a ≤ b ∧ b ≤ l.length ∧ i = .int .i64 a ∧ j = .int .i64 b ∧ (∀ m, m < a → ord (hold l m) x < 0) ∧ (∀ m, b ≤ m → m < l.length → 0 ≤ ord (hold l m) x) ∧ Below W0.heap.size W0 wr) (fun i j _ _ => (intOf j - intOf i).toNat)
  case atStart => exact ⟨0, l.length, Nat.zero_le _, Nat.le_refl _, rfl, rfl, fun m hm => by omega, fun m h1 h2 => by omega, Below.refl _ _⟩
  case round =>
    obtain ⟨a, b, hab, hbl, rfl, rfl, h1, h2, hbw⟩ := hrel
    have h1' := Lib.hid h1
    have h2' := Lib.hid h2
    clear h1 h2
    by_cases hlt : a < b
    · have hm : (a + b) / 2 < l.length := by omega
      have hma : a ≤ (a + b) / 2 := by omega
      have hmb : (a + b) / 2 < b := by omega
      have hB := hb0.trans (hbw.mono hb0.size)
      have hBz : w.heap.size < wr.heap.size := Nat.lt_of_lt_of_le hsz hbw.size
      obtain ⟨y0, y1, y2, y3⟩ : wr.cell? ⟨w.heap.size, 0, none⟩ = some (.int .i64 x.order) ∧ wr.cell? ⟨w.heap.size, 1, none⟩ = some (.int .i64 x.line) ∧ wr.cell? ⟨w.heap.size, 2, none⟩ = some (.int .i64 x.bin) ∧ wr.cell? ⟨w.heap.size, 3, none⟩ = some (.int .i64 x.n) :=
        ⟨(hbw.cell (p := ⟨_, _, none⟩) hsz).trans z0, (hbw.cell (p := ⟨_, _, none⟩) hsz).trans z1, (hbw.cell (p := ⟨_, _, none⟩) hsz).trans z2, (hbw.cell (p := ⟨_, _, none⟩) hsz).trans z3⟩
      obtain ⟨hok, hAb, b0, b1, b2, b3⟩ := (hA.up hB hB.size).hold hm
      have q0 := fun o d os => cells_wld (w := wr) (b := w.heap.size) hBz o d os
      have qA := fun o d os => cells_wld (w := wr) (b := ablk A) hAb o d os
      by_cases ho : ord (hold l ((a + b) / 2)) x < 0
      · go_wp2_with fail
        refine wp_region_wld (by kernel_rfl) (by kernel_rfl) ?_
        repeat (go_big_quiet_step ((go_at_call 62; refine calls_wld (hdOrder (hold l ((a + b) / 2)) x _))))
        refine wpQuiet_nil ?_
        intro W2 hw'
        have hb2 := below_of_cls hw'
        clear hw'
        go_wp2_with fail
        go_roundw
        case rel =>
          refine ⟨(a + b) / 2 + 1, b, by omega, hbl, by go_num, rfl, fun m hm => ?_, h2'.out, hbw.trans (hb2.mono hbw.size)⟩
          exact hless.out m _ (by omega) (by omega) ho
        case measure => simp [intOf]; omega
      · have ho' : 0 ≤ ord (hold l ((a + b) / 2)) x := by omega
        go_wp2_with fail
        refine wp_region_wld (by kernel_rfl) (by kernel_rfl) ?_
        repeat (go_big_quiet_step ((go_at_call 62; refine calls_wld (hdOrder (hold l ((a + b) / 2)) x _))))
        refine wpQuiet_nil ?_
        intro W2 hw'
        have hb2 := below_of_cls hw'
        clear hw'
        go_wp2_with fail
        go_roundw
        case rel =>
          refine ⟨a, (a + b) / 2, by omega, by omega, rfl, by go_num, h1'.out, fun m hm hml => ?_, hbw.trans (hb2.mono hbw.size)⟩
          exact Int.not_lt.1 fun hn => by have := hless.out _ m hm hml hn; omega
        case measure => simp [intOf]; omega
    · obtain rfl : a = b := by omega
      have hpos : pos l x = a := pos_eq' hbl h1'.out h2'.out
      have hpos' := Lib.hid hpos
      have hB := hb0.trans (hbw.mono hb0.size)
      by_cases hal : a < l.length
      · have hBz : w.heap.size < wr.heap.size := Nat.lt_of_lt_of_le hsz hbw.size
        obtain ⟨y0, y1, y2, y3⟩ : wr.cell? ⟨w.heap.size, 0, none⟩ = some (.int .i64 x.order) ∧ wr.cell? ⟨w.heap.size, 1, none⟩ = some (.int .i64 x.line) ∧ wr.cell? ⟨w.heap.size, 2, none⟩ = some (.int .i64 x.bin) ∧ wr.cell? ⟨w.heap.size, 3, none⟩ = some (.int .i64 x.n) :=
          ⟨(hbw.cell (p := ⟨_, _, none⟩) hsz).trans z0, (hbw.cell (p := ⟨_, _, none⟩) hsz).trans z1, (hbw.cell (p := ⟨_, _, none⟩) hsz).trans z2, (hbw.cell (p := ⟨_, _, none⟩) hsz).trans z3⟩
        obtain ⟨hok, hAb, b0, b1, b2, b3⟩ := (hA.up hB hB.size).hold hal
        have q0 := fun o d os => cells_wld (w := wr) (b := w.heap.size) hBz o d os
        have qA := fun o d os => cells_wld (w := wr) (b := ablk A) hAb o d os
        have hf := Lib.hid (show found l x = (ord (hold l a) x == 0) by
          unfold found
          rw [hpos, decide_eq_true hal, Bool.true_and]
          rw [Bool.eq_iff_iff]; simp)
        clear hpos
        go_wp2_with fail
        refine wp_region_wld (by kernel_rfl) (by kernel_rfl) ?_
        repeat (go_big_quiet_step ((go_at_call 62; refine calls_wld (hdOrder (hold l a) x _))))
        refine wpQuiet_nil ?_
        intro W2 hw'
        have hb2 := below_of_cls hw'
        clear hw'
        go_wp2_with fail
        go_ret2
        exact ⟨ret2 (by rw [hpos'.out]; rfl) (by rw [hf.out]; rfl), hB.trans (hb2.mono hB.size)⟩
      · have hf := Lib.hid (show found l x = false by
          unfold found
          rw [hpos, decide_eq_false hal, Bool.false_and])
        obtain rfl : a = l.length := by omega
        clear hpos hal
        go_wp2_with fail
        refine wp_region_wld (by kernel_rfl) (by kernel_rfl) ?_
        repeat (go_big_quiet_step ((go_at_call 62; refine calls_wld (hdOrder (hold l a) x _))))
        refine wpQuiet_nil ?_
        intro W2 hw'
        have hb2 := below_of_cls hw'
        clear hw'
        go_wp2_with fail
        go_ret2
        exact ⟨ret2 (by rw [hpos'.out]; rfl) (by rw [hf.out]; rfl), hB.trans (hb2.mono hB.size)⟩

set_option maxHeartbeats 400000 in
theorem hdFind (w : World) (v : Value) (l : List Hold) (x : Hold) (hv : Sl cHold w w.heap.size v l) (hok : holdsOk l = true) (hn : l.length ≤ 1000000) :
    Calls Try.prog 54 #[v, vHold x] w fun e w' => e = .returned (.tuple #[.int .i64 (pos l x), .bool (found l x)]) ∧ Below w.heap.size w w' := by
  have hV := hv
  obtain ⟨A, c, rfl, hl, hA⟩ := hv
  have hok' := Lib.hid hok
  clear hok
  have hb0 : Below w.heap.size w (w.alloc (.cells #[.int .i64 (x).order, .int .i64 (x).line, .int .i64 (x).bin, .int .i64 (x).n] 58)) := (Below.refl _ _).alloc (Nat.le_refl _) _
  unfold vHold
  go_enter Try.func54, Try.ntmps54
  go_wp2_with fail
  refine (slSearch _ _ l x (hV.grow hb0) hok'.out hn).mono ?_
  rintro e W1 ⟨rfl, hb1⟩
  go_wp2_with fail
  go_ret2
  exact ⟨ret2 rfl rfl, hb0.trans (hb1.mono hb0.size)⟩
end Wh
