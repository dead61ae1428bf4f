/- R.with, R.AddOf, R.DropOf: walks. (Printed by gen_with.py.) -/
import Derived.Test.YteafeopekfhnnaaHoldsF
import Derived.Test.YteafeopekfhnnaaPlainE
namespace Wh
open Go Go.RowKit Go.Shelf Go.Proofs
attribute [local go_sem] run_indexAt_letter

set_option maxHeartbeats 8000000 in
set_option maxRecDepth 10000 in
theorem rWith (w : World) (v : Value) (l : List Hold) (o ln b n : Int) (hv : Sl cHold w w.heap.size v l) (hok : holdsOk l = true) (hkey : keyOk o ln b) :
    Calls Try.prog 58 #[v, .int .i64 o, .int .i64 ln, .int .i64 b, .int .i64 n] w (Gives (fun u w' => Own cHold 4 58 w' w.heap.size u (withHold l ⟨o, ln, b, n⟩)) w) := by
  obtain ⟨A, c, rfl, _, hA⟩ := hv
  obtain ⟨x, hx⟩ : ∃ x : Hold, x = ⟨o, ln, b, n⟩ := ⟨_, rfl⟩
  have hlen := ok_length hok
  have hkx : keyOk x.order x.line x.bin := by rw [hx]; exact hkey
  have hr := (holdsOk_iff.1 hok).2
  have hkl : ∀ k, k < l.length → keyOk (hold l k).order (hold l k).line (hold l k).bin := fun k hk => ok_key hok hk
  have ho : o = x.order := by rw [hx]
  have hln : ln = x.line := by rw [hx]
  have hbb : b = x.bin := by rw [hx]
  have hnn : n = x.n := by rw [hx]
  rw [← hx]
  subst ho hln hbb hnn
  have hb0 : Below w.heap.size w (w.alloc (.cells #[.int .i64 (x).order, .int .i64 (x).line, .int .i64 (x).bin, .int .i64 (x).n] 58)) := (Below.refl _ _).alloc (Nat.le_refl _) _
  have hkx' := Lib.hid hkx
  have hkl' := Lib.hid hkl
  have hr' := Lib.hid hr
  clear hx hkey hkx hkl hr hok
  go_enter Try.func58, Try.ntmps58
  go_wp2_with fail
  obtain ⟨W0, hW0⟩ : ∃ W0, W0 = w.alloc (.cells #[.int .i64 (x).order, .int .i64 (x).line, .int .i64 (x).bin, .int .i64 (x).n] 58) := ⟨_, rfl⟩
  have hWr : w.alloc (.cells #[.int .i64 (x).order, .int .i64 (x).line, .int .i64 (x).bin, .int .i64 (x).n] 58) = W0 := hW0.symm
  simp only [hWr] at hb0 ⊢
  have hF : ∀ W, Below W0.heap.size W0 W → ∀ k, k < l.length → (okA A ∧ ablk A < W.heap.size ∧ W.cell? ⟨ablk A, aoff A + k * 4, none⟩ = some (.int .i64 (hold l k).order) ∧ W.cell? ⟨ablk A, aoff A + k * 4 + 1, none⟩ = some (.int .i64 (hold l k).line) ∧
      W.cell? ⟨ablk A, aoff A + k * 4 + 2, none⟩ = some (.int .i64 (hold l k).bin) ∧ W.cell? ⟨ablk A, aoff A + k * 4 + 3, none⟩ = some (.int .i64 (hold l k).n)) := fun W hW k hk => by
    have hB := hb0.trans (hW.mono hb0.size)
    exact (hA.up hB hB.size).hold hk
  have hX : ∀ W, Below W0.heap.size W0 W → (w.heap.size < W.heap.size ∧ W.cell? ⟨w.heap.size, 0, none⟩ = some (.int .i64 x.order) ∧ W.cell? ⟨w.heap.size, 1, none⟩ = some (.int .i64 x.line) ∧ W.cell? ⟨w.heap.size, 2, none⟩ = some (.int .i64 x.bin) ∧ W.cell? ⟨w.heap.size, 3, none⟩ = some (.int .i64 x.n)) := fun W hW => by
    have hsz : w.heap.size < W0.heap.size := by rw [hW0]; simp
    exact ⟨Nat.lt_of_lt_of_le hsz hW.size, (hW.cell (p := ⟨w.heap.size, 0, none⟩) hsz).trans (by rw [hW0]; simp), (hW.cell (p := ⟨w.heap.size, 1, none⟩) hsz).trans (by rw [hW0]; simp), (hW.cell (p := ⟨w.heap.size, 2, none⟩) hsz).trans (by rw [hW0]; simp), (hW.cell (p := ⟨w.heap.size, 3, none⟩) hsz).trans (by rw [hW0]; simp)⟩
  have hF' := Lib.hid hF
  have hX' := Lib.hid hX
  have hbase : w.heap.size ≤ W0.heap.size := hb0.size
  clear hF hX hW0 hWr hA
  have hd0 : (x.n == 0) = doneTo l x 0 := by rw [(withTo_zero l x).2, Bool.eq_iff_iff]; simp
  rw [hd0]
  clear hd0
  go_loopw [12, 13, 14] (fun u d i wr => ∃ k : Nat, k ≤ l.length ∧ i = .int .i64 k ∧ d = .bool (doneTo l x k) ∧ Own cHold 4 58 wr W0.heap.size u (withTo l x k) ∧ Below W0.heap.size W0 wr) (fun _ _ i _ => l.length - (intOf i).toNat)
  case atStart => exact ⟨0, Nat.zero_le _, rfl, rfl, by rw [(withTo_zero l x).1]; exact Own.nil, Below.refl _ _⟩
  case round =>
    obtain ⟨k, hk, rfl, rfl, hown, hbw⟩ := hrel
    have hwl := withTo_length l x k
    by_cases hlt : k < l.length
    · have hwl1 := withTo_length l x (k + 1)
      obtain ⟨hAok, hAb, b0, b1, b2, b3⟩ := hF'.out wr hbw k hlt
      obtain ⟨hBz, y0, y1, y2, y3⟩ := hX'.out wr hbw
      have q0 := fun o d os => cells_wld (w := wr) (b := w.heap.size) hBz o d os
      have qA := fun o d os => cells_wld (w := wr) (b := ablk A) hAb o d os
      cases hd : doneTo l x k
      · rcases Int.lt_trichotomy (place (hold l k)) (place x) with hp | hp | hp
        · obtain ⟨hw1, hd1⟩ := with_less_step hr'.out hlt hp
          rw [hd] at hd1
          have hw1' := Lib.hid hw1
          have hd1' := Lib.hid hd1
          have hp1 : ¬ (place x ≤ place (hold l k)) := by omega
          have hnb : (place (hold l k) != place x) = true := by simp; omega
          clear hw1 hd1 hd hp
          go_wp2_with fail
          refine wp_region_wld (by kernel_rfl) (by kernel_rfl) ?_
          repeat (go_big_quiet_step ((go_at_call 60; refine calls_wld (rPlace _ _ (by first | exact hkx'.out | exact hkl'.out k hlt)))))
          refine wpQuiet_nil ?_
          intro W2 hw'
          have hb2 := below_of_cls hw'
          clear hw'
          have hbw2 := hbw.trans (hb2.mono hbw.size)
          have hown2 := hown.below hb2
          clear q0 qA b0 b1 b2 b3 y0 y1 y2 y3
          obtain ⟨hAok4, hAb4, b0, b1, b2, b3⟩ := hF'.out W2 hbw2 k hlt
          obtain ⟨hBz4, y0, y1, y2, y3⟩ := hX'.out W2 hbw2
          have q0 := fun o d os => cells_wld (w := W2) (b := w.heap.size) hBz4 o d os
          have qA := fun o d os => cells_wld (w := W2) (b := ablk A) hAb4 o d os
          go_wp2_with fail
          refine wp_region_wld (by kernel_rfl) (by kernel_rfl) ?_
          repeat (go_big_quiet_step ((go_at_call 60; refine calls_wld (rPlace _ _ (by first | exact hkx'.out | exact hkl'.out k hlt)))))
          refine wpQuiet_nil ?_
          intro W5 hw'
          have hb5 := below_of_cls hw'
          clear hw'
          have hbw5 := hbw2.trans (hb5.mono hbw2.size)
          have hown5 := hown2.below hb5
          clear q0 qA b0 b1 b2 b3 y0 y1 y2 y3
          obtain ⟨hAok6, hAb6, b0, b1, b2, b3⟩ := hF'.out W5 hbw5 k hlt
          go_wp2_with (at_builtin; refine Hid.out ?_)
          unfold Hid
          refine wpList_push _ rfl (.tmp 52) (.tmp 57) 49 58 rfl W0.heap.size _ 4 32 Try.underlying49 infoHold rfl (by decide) (by decide) _ (withTo l x k) (hold l k) rfl (hown5.alloc _) ⟨W5.heap.size, 0, none⟩ 1 rfl rfl (cells_new _ _ _) (oneHold _) (by omega) (by have := hbw5.size; simp; omega) ?_
          intro v7 w7 hown7 hg7 hat7 hbel7
          have hbw7 := (hbw5.alloc hbw5.size (.cells #[.int .i64 (hold l k).order, .int .i64 (hold l k).line, .int .i64 (hold l k).bin, .int .i64 (hold l k).n] 58)).trans hbel7
          go_wp2_with fail
          go_roundw
          case rel => exact ⟨k + 1, by omega, by go_num, by rw [hd1'.out], by rw [hw1'.out]; exact hown7, hbw7⟩
          case measure => simp [intOf]; omega
        · have hw1 := with_eq_new hlt hp hd
          have hd1 := done_at hlt (show place x ≤ place (hold l k) by omega)
          have hw1' := Lib.hid hw1
          have hd1' := Lib.hid hd1
          have hnb : (place (hold l k) != place x) = false := by simp; omega
          have hp1 : place x ≤ place (hold l k) := by omega
          clear hw1 hd1 hd hp
          go_wp2_with fail
          refine wp_region_wld (by kernel_rfl) (by kernel_rfl) ?_
          repeat (go_big_quiet_step ((go_at_call 60; refine calls_wld (rPlace _ _ (by first | exact hkx'.out | exact hkl'.out k hlt)))))
          refine wpQuiet_nil ?_
          intro W2 hw'
          have hb2 := below_of_cls hw'
          clear hw'
          have hbw2 := hbw.trans (hb2.mono hbw.size)
          have hown2 := hown.below hb2
          clear q0 qA b0 b1 b2 b3 y0 y1 y2 y3
          obtain ⟨hBz2, y0, y1, y2, y3⟩ := hX'.out W2 hbw2
          go_wp2_with (at_builtin; refine Hid.out ?_)
          unfold Hid
          refine wpList_push _ rfl (.tmp 40) (.tmp 42) 49 58 rfl W0.heap.size _ 4 32 Try.underlying49 infoHold rfl (by decide) (by decide) _ (withTo l x k) x rfl (hown2.alloc _) ⟨W2.heap.size, 0, none⟩ 1 rfl rfl (cells_new _ _ _) (oneHold x) (by omega) (by have := hbw2.size; simp; omega) ?_
          intro v3 w3 hown3 hg3 hat3 hbel3
          have hbw3 := (hbw2.alloc hbw2.size (.cells #[.int .i64 (x).order, .int .i64 (x).line, .int .i64 (x).bin, .int .i64 (x).n] 58)).trans hbel3
          clear y0 y1 y2 y3
          obtain ⟨hAok4, hAb4, b0, b1, b2, b3⟩ := hF'.out w3 hbw3 k hlt
          obtain ⟨hBz4, y0, y1, y2, y3⟩ := hX'.out w3 hbw3
          have q0 := fun o d os => cells_wld (w := w3) (b := w.heap.size) hBz4 o d os
          have qA := fun o d os => cells_wld (w := w3) (b := ablk A) hAb4 o d os
          go_wp2_with fail
          refine wp_region_wld (by kernel_rfl) (by kernel_rfl) ?_
          repeat (go_big_quiet_step ((go_at_call 60; refine calls_wld (rPlace _ _ (by first | exact hkx'.out | exact hkl'.out k hlt)))))
          refine wpQuiet_nil ?_
          intro W5 hw'
          have hb5 := below_of_cls hw'
          clear hw'
          have hbw5 := hbw3.trans (hb5.mono hbw3.size)
          have hown5 := hown3.below hb5
          clear q0 qA b0 b1 b2 b3 y0 y1 y2 y3
          go_wp2_with fail
          go_roundw
          case rel => exact ⟨k + 1, by omega, by go_num, by rw [hd1'.out], by rw [hw1'.out]; exact hown5, hbw5⟩
          case measure => simp [intOf]; omega
        · have hw1 := with_more_new hlt hp hd
          have hd1 := done_at hlt (show place x ≤ place (hold l k) by omega)
          have hwl2 : (withTo l x k ++ [x]).length ≤ 146 := by rw [List.length_append]; simp; omega
          have hw1' := Lib.hid hw1
          have hd1' := Lib.hid hd1
          have hp1 : place x ≤ place (hold l k) := by omega
          have hnb : (place (hold l k) != place x) = true := by simp; omega
          clear hw1 hd1 hd hp
          go_wp2_with fail
          refine wp_region_wld (by kernel_rfl) (by kernel_rfl) ?_
          repeat (go_big_quiet_step ((go_at_call 60; refine calls_wld (rPlace _ _ (by first | exact hkx'.out | exact hkl'.out k hlt)))))
          refine wpQuiet_nil ?_
          intro W2 hw'
          have hb2 := below_of_cls hw'
          clear hw'
          have hbw2 := hbw.trans (hb2.mono hbw.size)
          have hown2 := hown.below hb2
          clear q0 qA b0 b1 b2 b3 y0 y1 y2 y3
          obtain ⟨hBz2, y0, y1, y2, y3⟩ := hX'.out W2 hbw2
          go_wp2_with (at_builtin; refine Hid.out ?_)
          unfold Hid
          refine wpList_push _ rfl (.tmp 40) (.tmp 42) 49 58 rfl W0.heap.size _ 4 32 Try.underlying49 infoHold rfl (by decide) (by decide) _ (withTo l x k) x rfl (hown2.alloc _) ⟨W2.heap.size, 0, none⟩ 1 rfl rfl (cells_new _ _ _) (oneHold x) (by omega) (by have := hbw2.size; simp; omega) ?_
          intro v3 w3 hown3 hg3 hat3 hbel3
          have hbw3 := (hbw2.alloc hbw2.size (.cells #[.int .i64 (x).order, .int .i64 (x).line, .int .i64 (x).bin, .int .i64 (x).n] 58)).trans hbel3
          clear y0 y1 y2 y3
          obtain ⟨hAok4, hAb4, b0, b1, b2, b3⟩ := hF'.out w3 hbw3 k hlt
          obtain ⟨hBz4, y0, y1, y2, y3⟩ := hX'.out w3 hbw3
          have q0 := fun o d os => cells_wld (w := w3) (b := w.heap.size) hBz4 o d os
          have qA := fun o d os => cells_wld (w := w3) (b := ablk A) hAb4 o d os
          go_wp2_with fail
          refine wp_region_wld (by kernel_rfl) (by kernel_rfl) ?_
          repeat (go_big_quiet_step ((go_at_call 60; refine calls_wld (rPlace _ _ (by first | exact hkx'.out | exact hkl'.out k hlt)))))
          refine wpQuiet_nil ?_
          intro W5 hw'
          have hb5 := below_of_cls hw'
          clear hw'
          have hbw5 := hbw3.trans (hb5.mono hbw3.size)
          have hown5 := hown3.below hb5
          clear q0 qA b0 b1 b2 b3 y0 y1 y2 y3
          obtain ⟨hAok6, hAb6, b0, b1, b2, b3⟩ := hF'.out W5 hbw5 k hlt
          go_wp2_with (at_builtin; refine Hid.out ?_)
          unfold Hid
          refine wpList_push _ rfl (.tmp 52) (.tmp 57) 49 58 rfl W0.heap.size _ 4 32 Try.underlying49 infoHold rfl (by decide) (by decide) _ (withTo l x k ++ [x]) (hold l k) rfl (hown5.alloc _) ⟨W5.heap.size, 0, none⟩ 1 rfl rfl (cells_new _ _ _) (oneHold _) (by omega) (by have := hbw5.size; simp; omega) ?_
          intro v7 w7 hown7 hg7 hat7 hbel7
          have hbw7 := (hbw5.alloc hbw5.size (.cells #[.int .i64 (hold l k).order, .int .i64 (hold l k).line, .int .i64 (hold l k).bin, .int .i64 (hold l k).n] 58)).trans hbel7
          go_wp2_with fail
          go_roundw
          case rel => exact ⟨k + 1, by omega, by go_num, by rw [hd1'.out], by rw [hw1'.out]; exact hown7, hbw7⟩
          case measure => simp [intOf]; omega
      · rcases Int.lt_trichotomy (place (hold l k)) (place x) with hp | hp | hp
        · obtain ⟨hw1, hd1⟩ := with_less_step hr'.out hlt hp
          rw [hd] at hd1
          have hw1' := Lib.hid hw1
          have hd1' := Lib.hid hd1
          have hp1 : ¬ (place x ≤ place (hold l k)) := by omega
          have hnb : (place (hold l k) != place x) = true := by simp; omega
          clear hw1 hd1 hd hp
          go_wp2_with fail
          refine wp_region_wld (by kernel_rfl) (by kernel_rfl) ?_
          repeat (go_big_quiet_step ((go_at_call 60; refine calls_wld (rPlace _ _ (by first | exact hkx'.out | exact hkl'.out k hlt)))))
          refine wpQuiet_nil ?_
          intro W2 hw'
          have hb2 := below_of_cls hw'
          clear hw'
          have hbw2 := hbw.trans (hb2.mono hbw.size)
          have hown2 := hown.below hb2
          clear q0 qA b0 b1 b2 b3 y0 y1 y2 y3
          obtain ⟨hAok4, hAb4, b0, b1, b2, b3⟩ := hF'.out W2 hbw2 k hlt
          obtain ⟨hBz4, y0, y1, y2, y3⟩ := hX'.out W2 hbw2
          have q0 := fun o d os => cells_wld (w := W2) (b := w.heap.size) hBz4 o d os
          have qA := fun o d os => cells_wld (w := W2) (b := ablk A) hAb4 o d os
          go_wp2_with fail
          refine wp_region_wld (by kernel_rfl) (by kernel_rfl) ?_
          repeat (go_big_quiet_step ((go_at_call 60; refine calls_wld (rPlace _ _ (by first | exact hkx'.out | exact hkl'.out k hlt)))))
          refine wpQuiet_nil ?_
          intro W5 hw'
          have hb5 := below_of_cls hw'
          clear hw'
          have hbw5 := hbw2.trans (hb5.mono hbw2.size)
          have hown5 := hown2.below hb5
          clear q0 qA b0 b1 b2 b3 y0 y1 y2 y3
          obtain ⟨hAok6, hAb6, b0, b1, b2, b3⟩ := hF'.out W5 hbw5 k hlt
          go_wp2_with (at_builtin; refine Hid.out ?_)
          unfold Hid
          refine wpList_push _ rfl (.tmp 52) (.tmp 57) 49 58 rfl W0.heap.size _ 4 32 Try.underlying49 infoHold rfl (by decide) (by decide) _ (withTo l x k) (hold l k) rfl (hown5.alloc _) ⟨W5.heap.size, 0, none⟩ 1 rfl rfl (cells_new _ _ _) (oneHold _) (by omega) (by have := hbw5.size; simp; omega) ?_
          intro v7 w7 hown7 hg7 hat7 hbel7
          have hbw7 := (hbw5.alloc hbw5.size (.cells #[.int .i64 (hold l k).order, .int .i64 (hold l k).line, .int .i64 (hold l k).bin, .int .i64 (hold l k).n] 58)).trans hbel7
          go_wp2_with fail
          go_roundw
          case rel => exact ⟨k + 1, by omega, by go_num, by rw [hd1'.out], by rw [hw1'.out]; exact hown7, hbw7⟩
          case measure => simp [intOf]; omega
        · have hw1 := with_eq_old hr'.out hlt hp hd
          have hd1 := done_at hlt (show place x ≤ place (hold l k) by omega)
          have hw1' := Lib.hid hw1
          have hd1' := Lib.hid hd1
          have hnb : (place (hold l k) != place x) = false := by simp; omega
          have hp1 : place x ≤ place (hold l k) := by omega
          clear hw1 hd1 hd hp
          go_wp2_with fail
          refine wp_region_wld (by kernel_rfl) (by kernel_rfl) ?_
          repeat (go_big_quiet_step ((go_at_call 60; refine calls_wld (rPlace _ _ (by first | exact hkx'.out | exact hkl'.out k hlt)))))
          refine wpQuiet_nil ?_
          intro W2 hw'
          have hb2 := below_of_cls hw'
          clear hw'
          have hbw2 := hbw.trans (hb2.mono hbw.size)
          have hown2 := hown.below hb2
          clear q0 qA b0 b1 b2 b3 y0 y1 y2 y3
          obtain ⟨hAok4, hAb4, b0, b1, b2, b3⟩ := hF'.out W2 hbw2 k hlt
          obtain ⟨hBz4, y0, y1, y2, y3⟩ := hX'.out W2 hbw2
          have q0 := fun o d os => cells_wld (w := W2) (b := w.heap.size) hBz4 o d os
          have qA := fun o d os => cells_wld (w := W2) (b := ablk A) hAb4 o d os
          go_wp2_with fail
          refine wp_region_wld (by kernel_rfl) (by kernel_rfl) ?_
          repeat (go_big_quiet_step ((go_at_call 60; refine calls_wld (rPlace _ _ (by first | exact hkx'.out | exact hkl'.out k hlt)))))
          refine wpQuiet_nil ?_
          intro W5 hw'
          have hb5 := below_of_cls hw'
          clear hw'
          have hbw5 := hbw2.trans (hb5.mono hbw2.size)
          have hown5 := hown2.below hb5
          clear q0 qA b0 b1 b2 b3 y0 y1 y2 y3
          go_wp2_with fail
          go_roundw
          case rel => exact ⟨k + 1, by omega, by go_num, by rw [hd1'.out], by rw [hw1'.out]; exact hown5, hbw5⟩
          case measure => simp [intOf]; omega
        · have hw1 := with_more_old hlt hp hd
          have hd1 := done_at hlt (show place x ≤ place (hold l k) by omega)
          have hw1' := Lib.hid hw1
          have hd1' := Lib.hid hd1
          have hp1 : place x ≤ place (hold l k) := by omega
          have hnb : (place (hold l k) != place x) = true := by simp; omega
          clear hw1 hd1 hd hp
          go_wp2_with fail
          refine wp_region_wld (by kernel_rfl) (by kernel_rfl) ?_
          repeat (go_big_quiet_step ((go_at_call 60; refine calls_wld (rPlace _ _ (by first | exact hkx'.out | exact hkl'.out k hlt)))))
          refine wpQuiet_nil ?_
          intro W2 hw'
          have hb2 := below_of_cls hw'
          clear hw'
          have hbw2 := hbw.trans (hb2.mono hbw.size)
          have hown2 := hown.below hb2
          clear q0 qA b0 b1 b2 b3 y0 y1 y2 y3
          obtain ⟨hAok4, hAb4, b0, b1, b2, b3⟩ := hF'.out W2 hbw2 k hlt
          obtain ⟨hBz4, y0, y1, y2, y3⟩ := hX'.out W2 hbw2
          have q0 := fun o d os => cells_wld (w := W2) (b := w.heap.size) hBz4 o d os
          have qA := fun o d os => cells_wld (w := W2) (b := ablk A) hAb4 o d os
          go_wp2_with fail
          refine wp_region_wld (by kernel_rfl) (by kernel_rfl) ?_
          repeat (go_big_quiet_step ((go_at_call 60; refine calls_wld (rPlace _ _ (by first | exact hkx'.out | exact hkl'.out k hlt)))))
          refine wpQuiet_nil ?_
          intro W5 hw'
          have hb5 := below_of_cls hw'
          clear hw'
          have hbw5 := hbw2.trans (hb5.mono hbw2.size)
          have hown5 := hown2.below hb5
          clear q0 qA b0 b1 b2 b3 y0 y1 y2 y3
          obtain ⟨hAok6, hAb6, b0, b1, b2, b3⟩ := hF'.out W5 hbw5 k hlt
          go_wp2_with (at_builtin; refine Hid.out ?_)
          unfold Hid
          refine wpList_push _ rfl (.tmp 52) (.tmp 57) 49 58 rfl W0.heap.size _ 4 32 Try.underlying49 infoHold rfl (by decide) (by decide) _ (withTo l x k) (hold l k) rfl (hown5.alloc _) ⟨W5.heap.size, 0, none⟩ 1 rfl rfl (cells_new _ _ _) (oneHold _) (by omega) (by have := hbw5.size; simp; omega) ?_
          intro v7 w7 hown7 hg7 hat7 hbel7
          have hbw7 := (hbw5.alloc hbw5.size (.cells #[.int .i64 (hold l k).order, .int .i64 (hold l k).line, .int .i64 (hold l k).bin, .int .i64 (hold l k).n] 58)).trans hbel7
          go_wp2_with fail
          go_roundw
          case rel => exact ⟨k + 1, by omega, by go_num, by rw [hd1'.out], by rw [hw1'.out]; exact hown7, hbw7⟩
          case measure => simp [intOf]; omega
    · obtain rfl : k = l.length := by omega
      obtain ⟨hBz, y0, y1, y2, y3⟩ := hX'.out wr hbw
      cases hd : doneTo l x l.length
      · have hfin := Lib.hid (with_end_new hd)
        clear hd
        go_wp2_with (at_builtin; refine Hid.out ?_)
        unfold Hid
        refine wpList_push _ rfl (.tmp 61) (.tmp 63) 49 58 rfl W0.heap.size _ 4 32 Try.underlying49 infoHold rfl (by decide) (by decide) _ (withTo l x l.length) x rfl (hown.alloc _) ⟨wr.heap.size, 0, none⟩ 1 rfl rfl (cells_new _ _ _) (oneHold x) (by omega) (by have := hbw.size; simp; omega) ?_
        intro v9 w9 hown9 hg9 hat9 hbel9
        go_wp2_with fail
        go_ret
        refine ⟨_, rfl, ?_, hb0.trans (((hbw.alloc hbw.size (.cells #[.int .i64 (x).order, .int .i64 (x).line, .int .i64 (x).bin, .int .i64 (x).n] 58)).trans hbel9).mono hbase)⟩
        rw [hfin.out]
        exact hown9.from_ hbase
      · have hfin := Lib.hid (with_end_old hd)
        clear hd
        go_wp2_with fail
        go_ret
        refine ⟨_, rfl, ?_, hb0.trans (hbw.mono hbase)⟩
        rw [hfin.out]
        exact hown.from_ hbase

end Wh
