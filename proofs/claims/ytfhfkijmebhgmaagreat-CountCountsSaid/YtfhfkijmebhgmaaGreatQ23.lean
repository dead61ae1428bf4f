/- Texts of the claim, joined: HoldsG, AllocB. -/
import Derived.StillTailTactics
import Derived.Test.YtfhfkijmebhgmaaGreatQ21
import Derived.Test.YtfhfkijmebhgmaaGreatQ03
import Derived.Test.YtfhfkijmebhgmaaGreatQ22
namespace Wh
open Go Go.RowKit Go.Shelf Go.Proofs
attribute [local go_sem] run_indexAt_letter

set_option maxHeartbeats 8000000 in
set_option maxRecDepth 10000 in
theorem rWith (w : World) (v : Value) (l : List Hold) (o ln b n : Int) (hv : Sl cHold w w.heap.size v l) (hok : holdsOk l = true) (hkey : keyOk o ln b) :
    Calls Tryz.prog 73 #[v, .int .i64 o, .int .i64 ln, .int .i64 b, .int .i64 n] w (Gives (fun u w' => Own cHold 4 46 w' w.heap.size u (withHold l ⟨o, ln, b, n⟩)) w) := by
  obtain ⟨A, c, rfl, _, hA⟩ := hv
  obtain ⟨x, hx⟩ : ∃ x : Hold, x = ⟨o, ln, b, n⟩ := ⟨_, rfl⟩
  have hlen := ok_length hok
  have hkx : keyOk x.order x.line x.bin := by rw [hx]; exact hkey
  have hr := (holdsOk_iff.1 hok).2
  have hkl : ∀ k, k < l.length → keyOk (hold l k).order (hold l k).line (hold l k).bin := fun k hk => ok_key hok hk
  have ho : o = x.order := by rw [hx]
  have hln : ln = x.line := by rw [hx]
  have hbb : b = x.bin := by rw [hx]
  have hnn : n = x.n := by rw [hx]
  rw [← hx]
  subst ho hln hbb hnn
  have hb0 : Below w.heap.size w (w.alloc (.cells #[.int .i64 (x).order, .int .i64 (x).line, .int .i64 (x).bin, .int .i64 (x).n] 46)) := (Below.refl _ _).alloc (Nat.le_refl _) _
  have hkx' := Lib.hid hkx
  have hkl' := Lib.hid hkl
  have hr' := Lib.hid hr
  clear hx hkey hkx hkl hr hok
  go_enter Tryz.func73, Tryz.ntmps73
  go_wp2_with fail
  obtain ⟨W0, hW0⟩ : ∃ W0, W0 = w.alloc (.cells #[.int .i64 (x).order, .int .i64 (x).line, .int .i64 (x).bin, .int .i64 (x).n] 46) := ⟨_, rfl⟩
  have hWr : w.alloc (.cells #[.int .i64 (x).order, .int .i64 (x).line, .int .i64 (x).bin, .int .i64 (x).n] 46) = W0 := hW0.symm
  simp only [hWr] at hb0 ⊢
  have hF : ∀ W, Below W0.heap.size W0 W → ∀ k, k < l.length → (okA A ∧ ablk A < W.heap.size ∧ W.cell? ⟨ablk A, aoff A + k * 4, none⟩ = some (.int .i64 (hold l k).order) ∧ W.cell? ⟨ablk A, aoff A + k * 4 + 1, none⟩ = some (.int .i64 (hold l k).line) ∧
      W.cell? ⟨ablk A, aoff A + k * 4 + 2, none⟩ = some (.int .i64 (hold l k).bin) ∧ W.cell? ⟨ablk A, aoff A + k * 4 + 3, none⟩ = some (.int .i64 (hold l k).n)) := fun W hW k hk => by
    have hB := hb0.trans (hW.mono hb0.size)
    exact (hA.up hB hB.size).hold hk
  have hX : ∀ W, Below W0.heap.size W0 W → (w.heap.size < W.heap.size ∧ W.cell? ⟨w.heap.size, 0, none⟩ = some (.int .i64 x.order) ∧ W.cell? ⟨w.heap.size, 1, none⟩ = some (.int .i64 x.line) ∧ W.cell? ⟨w.heap.size, 2, none⟩ = some (.int .i64 x.bin) ∧ W.cell? ⟨w.heap.size, 3, none⟩ = some (.int .i64 x.n)) := fun W hW => by
    have hsz : w.heap.size < W0.heap.size := by rw [hW0]; simp
    exact ⟨Nat.lt_of_lt_of_le hsz hW.size, (hW.cell (p := ⟨w.heap.size, 0, none⟩) hsz).trans (by rw [hW0]; simp), (hW.cell (p := ⟨w.heap.size, 1, none⟩) hsz).trans (by rw [hW0]; simp), (hW.cell (p := ⟨w.heap.size, 2, none⟩) hsz).trans (by rw [hW0]; simp), (hW.cell (p := ⟨w.heap.size, 3, none⟩) hsz).trans (by rw [hW0]; simp)⟩
  have hF' := Lib.hid hF
  have hX' := Lib.hid hX
  have hbase : w.heap.size ≤ W0.heap.size := hb0.size
  clear hF hX hW0 hWr hA
  have hd0 : (x.n == 0) = doneTo l x 0 := by rw [(withTo_zero l x).2, Bool.eq_iff_iff]; simp
  rw [hd0]
  clear hd0
  go_loopw [12, 13, 14] (fun u d i wr => ∃ k : Nat, k ≤ l.length ∧ i = .int .i64 k ∧ d = .bool (doneTo l x k) ∧ Own cHold 4 46 wr W0.heap.size u (withTo l x k) ∧ Below W0.heap.size W0 wr) (fun _ _ i _ => l.length - (intOf i).toNat)
  case atStart => exact ⟨0, Nat.zero_le _, rfl, rfl, by rw [(withTo_zero l x).1]; exact Own.nil, Below.refl _ _⟩
  case round =>
    obtain ⟨k, hk, rfl, rfl, hown, hbw⟩ := hrel
    have hwl := withTo_length l x k
    by_cases hlt : k < l.length
    · have hwl1 := withTo_length l x (k + 1)
      obtain ⟨hAok, hAb, b0, b1, b2, b3⟩ := hF'.out wr hbw k hlt
      obtain ⟨hBz, y0, y1, y2, y3⟩ := hX'.out wr hbw
      have q0 := fun o d os => cells_wld (w := wr) (b := w.heap.size) hBz o d os
      have qA := fun o d os => cells_wld (w := wr) (b := ablk A) hAb o d os
      cases hd : doneTo l x k
      · rcases Int.lt_trichotomy (place (hold l k)) (place x) with hp | hp | hp
        · obtain ⟨hw1, hd1⟩ := with_less_step hr'.out hlt hp
          rw [hd] at hd1
          have hw1' := Lib.hid hw1
          have hd1' := Lib.hid hd1
          have hp1 : ¬ (place x ≤ place (hold l k)) := by omega
          have hnb : (place (hold l k) != place x) = true := by simp; omega
          clear hw1 hd1 hd hp
          go_wp2_with fail
          refine wp_region_wld (by kernel_rfl) (by kernel_rfl) ?_
          repeat (go_big_quiet_step ((go_at_call 125; refine calls_wld (rPlace _ _ (by first | exact hkx'.out | exact hkl'.out k hlt)))))
          refine wpQuiet_nil ?_
          intro W2 hw'
          have hb2 := below_of_cls hw'
          clear hw'
          have hbw2 := hbw.trans (hb2.mono hbw.size)
          have hown2 := hown.below hb2
          clear q0 qA b0 b1 b2 b3 y0 y1 y2 y3
          obtain ⟨hAok4, hAb4, b0, b1, b2, b3⟩ := hF'.out W2 hbw2 k hlt
          obtain ⟨hBz4, y0, y1, y2, y3⟩ := hX'.out W2 hbw2
          have q0 := fun o d os => cells_wld (w := W2) (b := w.heap.size) hBz4 o d os
          have qA := fun o d os => cells_wld (w := W2) (b := ablk A) hAb4 o d os
          go_wp2_with fail
          refine wp_region_wld (by kernel_rfl) (by kernel_rfl) ?_
          repeat (go_big_quiet_step ((go_at_call 125; refine calls_wld (rPlace _ _ (by first | exact hkx'.out | exact hkl'.out k hlt)))))
          refine wpQuiet_nil ?_
          intro W5 hw'
          have hb5 := below_of_cls hw'
          clear hw'
          have hbw5 := hbw2.trans (hb5.mono hbw2.size)
          have hown5 := hown2.below hb5
          clear q0 qA b0 b1 b2 b3 y0 y1 y2 y3
          obtain ⟨hAok6, hAb6, b0, b1, b2, b3⟩ := hF'.out W5 hbw5 k hlt
          go_wp2_with (at_builtin; refine Hid.out ?_)
          unfold Hid
          refine wpList_push _ rfl (.tmp 52) (.tmp 57) 28 46 rfl W0.heap.size _ 4 32 Tryz.underlying28 infoHold rfl (by decide) (by decide) _ (withTo l x k) (hold l k) rfl (hown5.alloc _) ⟨W5.heap.size, 0, none⟩ 1 rfl rfl (cells_new _ _ _) (oneHold _) (by omega) (by have := hbw5.size; simp; omega) ?_
          intro v7 w7 hown7 hg7 hat7 hbel7
          have hbw7 := (hbw5.alloc hbw5.size (.cells #[.int .i64 (hold l k).order, .int .i64 (hold l k).line, .int .i64 (hold l k).bin, .int .i64 (hold l k).n] 46)).trans hbel7
          go_wp2_with fail
          go_roundw
          case rel => exact ⟨k + 1, by omega, by go_num, by rw [hd1'.out], by rw [hw1'.out]; exact hown7, hbw7⟩
          case measure => simp [intOf]; omega
        · have hw1 := with_eq_new hlt hp hd
          have hd1 := done_at hlt (show place x ≤ place (hold l k) by omega)
          have hw1' := Lib.hid hw1
          have hd1' := Lib.hid hd1
          have hnb : (place (hold l k) != place x) = false := by simp; omega
          have hp1 : place x ≤ place (hold l k) := by omega
          clear hw1 hd1 hd hp
          go_wp2_with fail
          refine wp_region_wld (by kernel_rfl) (by kernel_rfl) ?_
          repeat (go_big_quiet_step ((go_at_call 125; refine calls_wld (rPlace _ _ (by first | exact hkx'.out | exact hkl'.out k hlt)))))
          refine wpQuiet_nil ?_
          intro W2 hw'
          have hb2 := below_of_cls hw'
          clear hw'
          have hbw2 := hbw.trans (hb2.mono hbw.size)
          have hown2 := hown.below hb2
          clear q0 qA b0 b1 b2 b3 y0 y1 y2 y3
          obtain ⟨hBz2, y0, y1, y2, y3⟩ := hX'.out W2 hbw2
          go_wp2_with (at_builtin; refine Hid.out ?_)
          unfold Hid
          refine wpList_push _ rfl (.tmp 40) (.tmp 42) 28 46 rfl W0.heap.size _ 4 32 Tryz.underlying28 infoHold rfl (by decide) (by decide) _ (withTo l x k) x rfl (hown2.alloc _) ⟨W2.heap.size, 0, none⟩ 1 rfl rfl (cells_new _ _ _) (oneHold x) (by omega) (by have := hbw2.size; simp; omega) ?_
          intro v3 w3 hown3 hg3 hat3 hbel3
          have hbw3 := (hbw2.alloc hbw2.size (.cells #[.int .i64 (x).order, .int .i64 (x).line, .int .i64 (x).bin, .int .i64 (x).n] 46)).trans hbel3
          clear y0 y1 y2 y3
          obtain ⟨hAok4, hAb4, b0, b1, b2, b3⟩ := hF'.out w3 hbw3 k hlt
          obtain ⟨hBz4, y0, y1, y2, y3⟩ := hX'.out w3 hbw3
          have q0 := fun o d os => cells_wld (w := w3) (b := w.heap.size) hBz4 o d os
          have qA := fun o d os => cells_wld (w := w3) (b := ablk A) hAb4 o d os
          go_wp2_with fail
          refine wp_region_wld (by kernel_rfl) (by kernel_rfl) ?_
          repeat (go_big_quiet_step ((go_at_call 125; refine calls_wld (rPlace _ _ (by first | exact hkx'.out | exact hkl'.out k hlt)))))
          refine wpQuiet_nil ?_
          intro W5 hw'
          have hb5 := below_of_cls hw'
          clear hw'
          have hbw5 := hbw3.trans (hb5.mono hbw3.size)
          have hown5 := hown3.below hb5
          clear q0 qA b0 b1 b2 b3 y0 y1 y2 y3
          go_wp2_with fail
          go_roundw
          case rel => exact ⟨k + 1, by omega, by go_num, by rw [hd1'.out], by rw [hw1'.out]; exact hown5, hbw5⟩
          case measure => simp [intOf]; omega
        · have hw1 := with_more_new hlt hp hd
          have hd1 := done_at hlt (show place x ≤ place (hold l k) by omega)
          have hwl2 : (withTo l x k ++ [x]).length ≤ 146 := by rw [List.length_append]; simp; omega
          have hw1' := Lib.hid hw1
          have hd1' := Lib.hid hd1
          have hp1 : place x ≤ place (hold l k) := by omega
          have hnb : (place (hold l k) != place x) = true := by simp; omega
          clear hw1 hd1 hd hp
          go_wp2_with fail
          refine wp_region_wld (by kernel_rfl) (by kernel_rfl) ?_
          repeat (go_big_quiet_step ((go_at_call 125; refine calls_wld (rPlace _ _ (by first | exact hkx'.out | exact hkl'.out k hlt)))))
          refine wpQuiet_nil ?_
          intro W2 hw'
          have hb2 := below_of_cls hw'
          clear hw'
          have hbw2 := hbw.trans (hb2.mono hbw.size)
          have hown2 := hown.below hb2
          clear q0 qA b0 b1 b2 b3 y0 y1 y2 y3
          obtain ⟨hBz2, y0, y1, y2, y3⟩ := hX'.out W2 hbw2
          go_wp2_with (at_builtin; refine Hid.out ?_)
          unfold Hid
          refine wpList_push _ rfl (.tmp 40) (.tmp 42) 28 46 rfl W0.heap.size _ 4 32 Tryz.underlying28 infoHold rfl (by decide) (by decide) _ (withTo l x k) x rfl (hown2.alloc _) ⟨W2.heap.size, 0, none⟩ 1 rfl rfl (cells_new _ _ _) (oneHold x) (by omega) (by have := hbw2.size; simp; omega) ?_
          intro v3 w3 hown3 hg3 hat3 hbel3
          have hbw3 := (hbw2.alloc hbw2.size (.cells #[.int .i64 (x).order, .int .i64 (x).line, .int .i64 (x).bin, .int .i64 (x).n] 46)).trans hbel3
          clear y0 y1 y2 y3
          obtain ⟨hAok4, hAb4, b0, b1, b2, b3⟩ := hF'.out w3 hbw3 k hlt
          obtain ⟨hBz4, y0, y1, y2, y3⟩ := hX'.out w3 hbw3
          have q0 := fun o d os => cells_wld (w := w3) (b := w.heap.size) hBz4 o d os
          have qA := fun o d os => cells_wld (w := w3) (b := ablk A) hAb4 o d os
          go_wp2_with fail
          refine wp_region_wld (by kernel_rfl) (by kernel_rfl) ?_
          repeat (go_big_quiet_step ((go_at_call 125; refine calls_wld (rPlace _ _ (by first | exact hkx'.out | exact hkl'.out k hlt)))))
          refine wpQuiet_nil ?_
          intro W5 hw'
          have hb5 := below_of_cls hw'
          clear hw'
          have hbw5 := hbw3.trans (hb5.mono hbw3.size)
          have hown5 := hown3.below hb5
          clear q0 qA b0 b1 b2 b3 y0 y1 y2 y3
          obtain ⟨hAok6, hAb6, b0, b1, b2, b3⟩ := hF'.out W5 hbw5 k hlt
          go_wp2_with (at_builtin; refine Hid.out ?_)
          unfold Hid
          refine wpList_push _ rfl (.tmp 52) (.tmp 57) 28 46 rfl W0.heap.size _ 4 32 Tryz.underlying28 infoHold rfl (by decide) (by decide) _ (withTo l x k ++ [x]) (hold l k) rfl (hown5.alloc _) ⟨W5.heap.size, 0, none⟩ 1 rfl rfl (cells_new _ _ _) (oneHold _) (by omega) (by have := hbw5.size; simp; omega) ?_
          intro v7 w7 hown7 hg7 hat7 hbel7
          have hbw7 := (hbw5.alloc hbw5.size (.cells #[.int .i64 (hold l k).order, .int .i64 (hold l k).line, .int .i64 (hold l k).bin, .int .i64 (hold l k).n] 46)).trans hbel7
          go_wp2_with fail
          go_roundw
          case rel => exact ⟨k + 1, by omega, by go_num, by rw [hd1'.out], by rw [hw1'.out]; exact hown7, hbw7⟩
          case measure => simp [intOf]; omega
      · rcases Int.lt_trichotomy (place (hold l k)) (place x) with hp | hp | hp
        · obtain ⟨hw1, hd1⟩ := with_less_step hr'.out hlt hp
          rw [hd] at hd1
          have hw1' := Lib.hid hw1
          have hd1' := Lib.hid hd1
          have hp1 : ¬ (place x ≤ place (hold l k)) := by omega
          have hnb : (place (hold l k) != place x) = true := by simp; omega
          clear hw1 hd1 hd hp
          go_wp2_with fail
          refine wp_region_wld (by kernel_rfl) (by kernel_rfl) ?_
          repeat (go_big_quiet_step ((go_at_call 125; refine calls_wld (rPlace _ _ (by first | exact hkx'.out | exact hkl'.out k hlt)))))
          refine wpQuiet_nil ?_
          intro W2 hw'
          have hb2 := below_of_cls hw'
          clear hw'
          have hbw2 := hbw.trans (hb2.mono hbw.size)
          have hown2 := hown.below hb2
          clear q0 qA b0 b1 b2 b3 y0 y1 y2 y3
          obtain ⟨hAok4, hAb4, b0, b1, b2, b3⟩ := hF'.out W2 hbw2 k hlt
          obtain ⟨hBz4, y0, y1, y2, y3⟩ := hX'.out W2 hbw2
          have q0 := fun o d os => cells_wld (w := W2) (b := w.heap.size) hBz4 o d os
          have qA := fun o d os => cells_wld (w := W2) (b := ablk A) hAb4 o d os
          go_wp2_with fail
          refine wp_region_wld (by kernel_rfl) (by kernel_rfl) ?_
          repeat (go_big_quiet_step ((go_at_call 125; refine calls_wld (rPlace _ _ (by first | exact hkx'.out | exact hkl'.out k hlt)))))
          refine wpQuiet_nil ?_
          intro W5 hw'
          have hb5 := below_of_cls hw'
          clear hw'
          have hbw5 := hbw2.trans (hb5.mono hbw2.size)
          have hown5 := hown2.below hb5
          clear q0 qA b0 b1 b2 b3 y0 y1 y2 y3
          obtain ⟨hAok6, hAb6, b0, b1, b2, b3⟩ := hF'.out W5 hbw5 k hlt
          go_wp2_with (at_builtin; refine Hid.out ?_)
          unfold Hid
          refine wpList_push _ rfl (.tmp 52) (.tmp 57) 28 46 rfl W0.heap.size _ 4 32 Tryz.underlying28 infoHold rfl (by decide) (by decide) _ (withTo l x k) (hold l k) rfl (hown5.alloc _) ⟨W5.heap.size, 0, none⟩ 1 rfl rfl (cells_new _ _ _) (oneHold _) (by omega) (by have := hbw5.size; simp; omega) ?_
          intro v7 w7 hown7 hg7 hat7 hbel7
          have hbw7 := (hbw5.alloc hbw5.size (.cells #[.int .i64 (hold l k).order, .int .i64 (hold l k).line, .int .i64 (hold l k).bin, .int .i64 (hold l k).n] 46)).trans hbel7
          go_wp2_with fail
          go_roundw
          case rel => exact ⟨k + 1, by omega, by go_num, by rw [hd1'.out], by rw [hw1'.out]; exact hown7, hbw7⟩
          case measure => simp [intOf]; omega
        · have hw1 := with_eq_old hr'.out hlt hp hd
          have hd1 := done_at hlt (show place x ≤ place (hold l k) by omega)
          have hw1' := Lib.hid hw1
          have hd1' := Lib.hid hd1
          have hnb : (place (hold l k) != place x) = false := by simp; omega
          have hp1 : place x ≤ place (hold l k) := by omega
          clear hw1 hd1 hd hp
          go_wp2_with fail
          refine wp_region_wld (by kernel_rfl) (by kernel_rfl) ?_
          repeat (go_big_quiet_step ((go_at_call 125; refine calls_wld (rPlace _ _ (by first | exact hkx'.out | exact hkl'.out k hlt)))))
          refine wpQuiet_nil ?_
          intro W2 hw'
          have hb2 := below_of_cls hw'
          clear hw'
          have hbw2 := hbw.trans (hb2.mono hbw.size)
          have hown2 := hown.below hb2
          clear q0 qA b0 b1 b2 b3 y0 y1 y2 y3
          obtain ⟨hAok4, hAb4, b0, b1, b2, b3⟩ := hF'.out W2 hbw2 k hlt
          obtain ⟨hBz4, y0, y1, y2, y3⟩ := hX'.out W2 hbw2
          have q0 := fun o d os => cells_wld (w := W2) (b := w.heap.size) hBz4 o d os
          have qA := fun o d os => cells_wld (w := W2) (b := ablk A) hAb4 o d os
          go_wp2_with fail
          refine wp_region_wld (by kernel_rfl) (by kernel_rfl) ?_
          repeat (go_big_quiet_step ((go_at_call 125; refine calls_wld (rPlace _ _ (by first | exact hkx'.out | exact hkl'.out k hlt)))))
          refine wpQuiet_nil ?_
          intro W5 hw'
          have hb5 := below_of_cls hw'
          clear hw'
          have hbw5 := hbw2.trans (hb5.mono hbw2.size)
          have hown5 := hown2.below hb5
          clear q0 qA b0 b1 b2 b3 y0 y1 y2 y3
          go_wp2_with fail
          go_roundw
          case rel => exact ⟨k + 1, by omega, by go_num, by rw [hd1'.out], by rw [hw1'.out]; exact hown5, hbw5⟩
          case measure => simp [intOf]; omega
        · have hw1 := with_more_old hlt hp hd
          have hd1 := done_at hlt (show place x ≤ place (hold l k) by omega)
          have hw1' := Lib.hid hw1
          have hd1' := Lib.hid hd1
          have hp1 : place x ≤ place (hold l k) := by omega
          have hnb : (place (hold l k) != place x) = true := by simp; omega
          clear hw1 hd1 hd hp
          go_wp2_with fail
          refine wp_region_wld (by kernel_rfl) (by kernel_rfl) ?_
          repeat (go_big_quiet_step ((go_at_call 125; refine calls_wld (rPlace _ _ (by first | exact hkx'.out | exact hkl'.out k hlt)))))
          refine wpQuiet_nil ?_
          intro W2 hw'
          have hb2 := below_of_cls hw'
          clear hw'
          have hbw2 := hbw.trans (hb2.mono hbw.size)
          have hown2 := hown.below hb2
          clear q0 qA b0 b1 b2 b3 y0 y1 y2 y3
          obtain ⟨hAok4, hAb4, b0, b1, b2, b3⟩ := hF'.out W2 hbw2 k hlt
          obtain ⟨hBz4, y0, y1, y2, y3⟩ := hX'.out W2 hbw2
          have q0 := fun o d os => cells_wld (w := W2) (b := w.heap.size) hBz4 o d os
          have qA := fun o d os => cells_wld (w := W2) (b := ablk A) hAb4 o d os
          go_wp2_with fail
          refine wp_region_wld (by kernel_rfl) (by kernel_rfl) ?_
          repeat (go_big_quiet_step ((go_at_call 125; refine calls_wld (rPlace _ _ (by first | exact hkx'.out | exact hkl'.out k hlt)))))
          refine wpQuiet_nil ?_
          intro W5 hw'
          have hb5 := below_of_cls hw'
          clear hw'
          have hbw5 := hbw2.trans (hb5.mono hbw2.size)
          have hown5 := hown2.below hb5
          clear q0 qA b0 b1 b2 b3 y0 y1 y2 y3
          obtain ⟨hAok6, hAb6, b0, b1, b2, b3⟩ := hF'.out W5 hbw5 k hlt
          go_wp2_with (at_builtin; refine Hid.out ?_)
          unfold Hid
          refine wpList_push _ rfl (.tmp 52) (.tmp 57) 28 46 rfl W0.heap.size _ 4 32 Tryz.underlying28 infoHold rfl (by decide) (by decide) _ (withTo l x k) (hold l k) rfl (hown5.alloc _) ⟨W5.heap.size, 0, none⟩ 1 rfl rfl (cells_new _ _ _) (oneHold _) (by omega) (by have := hbw5.size; simp; omega) ?_
          intro v7 w7 hown7 hg7 hat7 hbel7
          have hbw7 := (hbw5.alloc hbw5.size (.cells #[.int .i64 (hold l k).order, .int .i64 (hold l k).line, .int .i64 (hold l k).bin, .int .i64 (hold l k).n] 46)).trans hbel7
          go_wp2_with fail
          go_roundw
          case rel => exact ⟨k + 1, by omega, by go_num, by rw [hd1'.out], by rw [hw1'.out]; exact hown7, hbw7⟩
          case measure => simp [intOf]; omega
    · obtain rfl : k = l.length := by omega
      obtain ⟨hBz, y0, y1, y2, y3⟩ := hX'.out wr hbw
      cases hd : doneTo l x l.length
      · have hfin := Lib.hid (with_end_new hd)
        clear hd
        go_wp2_with (at_builtin; refine Hid.out ?_)
        unfold Hid
        refine wpList_push _ rfl (.tmp 61) (.tmp 63) 28 46 rfl W0.heap.size _ 4 32 Tryz.underlying28 infoHold rfl (by decide) (by decide) _ (withTo l x l.length) x rfl (hown.alloc _) ⟨wr.heap.size, 0, none⟩ 1 rfl rfl (cells_new _ _ _) (oneHold x) (by omega) (by have := hbw.size; simp; omega) ?_
        intro v9 w9 hown9 hg9 hat9 hbel9
        go_wp2_with fail
        go_ret
        refine ⟨_, rfl, ?_, hb0.trans (((hbw.alloc hbw.size (.cells #[.int .i64 (x).order, .int .i64 (x).line, .int .i64 (x).bin, .int .i64 (x).n] 46)).trans hbel9).mono hbase)⟩
        rw [hfin.out]
        exact hown9.from_ hbase
      · have hfin := Lib.hid (with_end_old hd)
        clear hd
        go_wp2_with fail
        go_ret
        refine ⟨_, rfl, ?_, hb0.trans (hbw.mono hbase)⟩
        rw [hfin.out]
        exact hown.from_ hbase

end Wh
namespace Wh
open Go Go.RowKit Go.Shelf Go.Proofs
attribute [local go_sem] run_indexAt_letter evL_tmp evL_const evL_func

theorem boxesOwn {w : World} {base : Nat} {V : SV} {s : State} (p : Plan) (Ab : Option Addr) (cb : Nat) (As : Option Addr) (cs : Nat) (ho : OwnSt w base V s) :
    ∃ W0 : World, ((w.alloc (.cells #[.slice Ab p.bins.length cb, .slice As p.sizes.length cs] 25)).alloc (.cells #[V.on, V.orders, V.holds, V.moves, V.inn, V.out, V.fixed] 31)).alloc (.cells #[.slice none 0 0, .slice none 0 0, .slice none 0 0, .slice none 0 0, .slice none 0 0, .slice none 0 0, .slice none 0 0] 31) = W0 ∧ Below w.heap.size w W0 ∧
      W0.heap.size = w.heap.size + 1 + 1 + 1 ∧ Blk W0 w.heap.size 25 [.slice Ab p.bins.length cb, .slice As p.sizes.length cs] ∧ Bx W0 base (w.heap.size + 1) 31 [] V s ∧ BoxAt W0 (w.heap.size + 1 + 1) nilSV := by
  have hb1 : Below w.heap.size w (w.alloc (.cells #[.slice Ab p.bins.length cb, .slice As p.sizes.length cs] 25)) := (Below.refl _ _).alloc (Nat.le_refl _) _
  have h1 : Blk (w.alloc (.cells #[.slice Ab p.bins.length cb, .slice As p.sizes.length cs] 25)) w.heap.size 25 [.slice Ab p.bins.length cb, .slice As p.sizes.length cs] := Blk.new _ _ _
  have h2 := Blk.new (w.alloc (.cells #[.slice Ab p.bins.length cb, .slice As p.sizes.length cs] 25)) 31 #[V.on, V.orders, V.holds, V.moves, V.inn, V.out, V.fixed]
  rw [World.size_alloc] at h2
  have h3 := Blk.new ((w.alloc (.cells #[.slice Ab p.bins.length cb, .slice As p.sizes.length cs] 25)).alloc (.cells #[V.on, V.orders, V.holds, V.moves, V.inn, V.out, V.fixed] 31)) 31 #[.slice none 0 0, .slice none 0 0, .slice none 0 0, .slice none 0 0, .slice none 0 0, .slice none 0 0, .slice none 0 0]
  rw [World.size_alloc, World.size_alloc] at h3
  refine ⟨_, rfl, (hb1.alloc (by simp) _).alloc (by simp; omega) _, by simp, (h1.alloc _).alloc _, Bx.of (h2.alloc _) (((ho.below hb1).alloc _).alloc _), h3⟩

/-- What the reference's holding does. -/
def TakePost (p : Plan) (s : State) (o k : Nat) (n but : Int) (w : World) (base : Nat) (V : SV) (e : Ending) (w' : World) : Prop :=
  ∃ V', V' = { V with holds := V'.holds } ∧ e = .returned (.tuple #[V'.val, .int .i64 (takeS p s o k n but).2]) ∧ OwnSt w' base V' (takeS p s o k n but).1 ∧ Step (fun j => (V.line o).ownBlock = some j) w w'

set_option maxHeartbeats 8000000 in
set_option maxRecDepth 100000 in
theorem rTake (w : World) (v : Value) (p : Plan) (s : State) (o k : Nat) (n but : Int) {base : Nat} {V : SV} (hp : PlanV w w.heap.size v p) (hr : Right p s) (hm : May s o k n) (ho : OwnSt w base V s) (hbase : base ≤ w.heap.size) :
    Calls Tryz.prog 74 #[v, V.val, .int .i64 o, .int .i64 k, .int .i64 n, .int .i64 but] w (TakePost p s o k n but w base V) := by
  obtain ⟨Ab, cb, As, cs, rfl, hP', hBn, hSz, hlb, hls⟩ := openPl hp
  change Calls Tryz.prog 74 #[.agg #[.slice Ab p.bins.length cb, .slice As p.sizes.length cs], .agg #[V.on, V.orders, V.holds, V.moves, V.inn, V.out, V.fixed], .int .i64 o, .int .i64 k, .int .i64 n, .int .i64 but] w _
  obtain ⟨gl, cl, curl, e1, hgl, hblk, _⟩ := ho.lineAt hm.ho hm.hk
  have hll := hblk.lt
  go_enter Tryz.func74, Tryz.ntmps74
  go_wp2_with fail
  obtain ⟨W0, hW0, hb0, hsE, hpl, hB0, hres⟩ := boxesOwn p Ab cb As cs ho
  rw [hW0]
  clear hW0 hblk
  have y0 := hpl.cell (j := 0) rfl
  have y1 := hpl.cell (j := 1) rfl
  go_wp2_with fail
  refine (rWayOf _ _ p (hP'.out _ hb0) (by have := hr.sane.counts; omega)).mono ?_
  rintro e W1 ⟨uw, rfl, hway, h1⟩
  obtain ⟨Aw, cw, rfl⟩ := hway.isSlice
  rw [nats_length] at hway ⊢
  have hB1 := Lib.hid (hB0.below h1)
  obtain ⟨hgl1, f0, _, _, _⟩ := hB1.out.own.lineCells hm.ho hm.hk e1
  obtain ⟨go, co, curo, eo, hgo, hblko, z0, z1⟩ := hB1.out.own.orderAt hm.ho
  obtain ⟨c0, c1, c2, c3, c4, c5, c6⟩ := hB1.out.cells
  rw [eo] at c1
  rw [e1] at z1
  have hon : (o : Int) < (s.orders.length : Int) := by have := hm.ho; omega
  have hkn : (k : Int) < ((s.order o).lines.length : Int) := by have := hm.hk; omega
  have hm' := Lib.hid hm
  have hr' := Lib.hid hr
  have hway' := Lib.hid hway
  have hres1 := Lib.hid (hres.below h1 hres.lt)
  have hlw : (way p).length ≤ 6 := by rw [way_length]; exact hr.sane.counts.2.1
  have hl0 := h1.size
  clear hm hr hway hB0 y0 y1 hP' hBn hSz hpl hres
  go_wp2_with fail
  clear c0 c1 c2 c3 c4 c5 c6 z0 z1 f0 hgl1 eo hblko
  go_loopw [16, 4, 17, 18] (fun i n' _ _ wr => ∃ (j : Nat) (s' : State) (m : Int) (V' : SV), V' = { V with holds := V'.holds } ∧ j ≤ (way p).length ∧ i = .int .i64 j ∧ n' = .int .i64 m ∧ Right p s' ∧ May s' o k m ∧ takeGo o k but ((way p).drop j) s' m = takeS p s o k n but ∧
    Bx wr base (w.heap.size + 1) 31 [] V' s' ∧ (s'.line o k).good = (s.line o k).good ∧ Step (fun j => j = w.heap.size + 1 ∨ (V.line o).ownBlock = some j) W1 wr) (fun i _ _ _ _ => (way p).length - (intOf i).toNat)
  case atStart => exact ⟨0, s, n, V, rfl, Nat.zero_le _, rfl, rfl, hr'.out, hm'.out, rfl, hB1.out, rfl, Step.refl _ _⟩
  case round =>
    clear hr' hm' hB1
    obtain ⟨j, s', m, V', hsb, hj, rfl, rfl, hr, hm, htg, hBx, hgd, hst⟩ := hrel
    have hr' := Lib.hid hr
    have hm' := Lib.hid hm
    have htg' := Lib.hid htg
    have hBx' := Lib.hid hBx
    have hst' := Lib.hid hst
    have hgd' := Lib.hid hgd
    have hks := Lib.hid (show ∀ j, (j = w.heap.size + 1 ∨ (V.line o).ownBlock = some j) → j ≤ w.heap.size + 1 from fun j h => by
      rcases h with rfl | h
      · omega
      · rw [e1] at h
        change some gl = some j at h
        injection h with h
        omega)
    by_cases hlt : j < (way p).length
    · have hwb := way_bins p _ (List.getElem_mem hlt)
      have hwr := hway'.out.step hst (fun k hk hks' => absurd (hks.out k hks') (by have := (hway'.out.size k hk).1; omega))
      obtain ⟨gw, cw', curw, ew, hgw, hbw, zw⟩ := OwnSt.intAtOwn hwr (g := j) (by rw [nats_length]; exact hlt)
      rw [nats_at hlt] at zw
      obtain ⟨wb, hwbe⟩ : ∃ x, x = (way p)[j] := ⟨_, rfl⟩
      rw [← hwbe] at zw hwb
      have hwbe' := Lib.hid hwbe
      clear hwbe
      obtain rfl : Aw = some ⟨gw, 0, none⟩ := by injection ew
      clear ew
      have hgood := Lib.hid (hr.sane.line hm.ho hm.hk)
      have hjl : (j : Int) < ((way p).length : Int) := by omega
      have hr2 := Lib.hid hr.sane
      have hbb := Lib.hid (show 0 ≤ (wb : Int) ∧ (wb : Int) < p.bins.length by omega)
      have hsb' := Lib.hid hsb
      have hdr : takeGo o k but (wb :: (way p).drop (j + 1)) s' m = takeS p s o k n but := by rw [hwbe'.out, ← drop_at hlt]; exact htg'.out
      have hdr' := Lib.hid hdr
      obtain ⟨c0, c1, c2, c3, c4, c5, c6⟩ := hBx.cells
      clear hr hm htg hBx hst hwr hbw hsb hdr hgd
      by_cases hbut : (wb : Int) = but
      · have hq : ((wb : Int) == but) = true := by simpa using hbut
        have htg2 := Lib.hid (show takeGo o k but ((way p).drop (j + 1)) s' m = takeS p s o k n but by rw [← hdr'.out, takeGo_skip (.inl hbut)])
        clear hbut
        go_wp2_with fail
        go_roundw
        case rel => exact ⟨j + 1, s', m, V', hsb'.out, by omega, by go_num, rfl, hr'.out, hm'.out, htg2.out, hBx'.out, hgd'.out, hst'.out⟩
        case measure => simp [intOf]; omega
      · have hq : ((wb : Int) == but) = false := by simpa using hbut
        have hbut' := Lib.hid hbut
        clear hbut
        go_wp2_with fail
        clear c0 c1 c2 c3 c4 c5 c6 zw
        refine (rAvailOf _ _ p s' wb (s.line o k).good (hBx'.out.own.view hr2.out) hr2.out hbb.out (by rw [← hgd'.out]; exact hgood.out.1)).mono ?_
        rintro e W6 ⟨rfl, hb6⟩
        obtain ⟨mm, hmm⟩ : ∃ x, (if avail s' ↑wb (s.line o k).good < m then avail s' ↑wb (s.line o k).good else m) = x := ⟨_, rfl⟩
        have hmin : mm = min m (avail s' wb (s'.line o k).good) := by rw [← hmm, hgd'.out]; split <;> omega
        have hav := hm'.out.avail hr'.out hwb
        have hmb := hm'.out.back
        have hm0 := hm'.out.n0
        have hgb := hgood.out
        have hmr : mm ≤ m ∧ m ≤ 200 ∧ 0 ≤ mm ∧ mm ≤ avail s' wb (s'.line o k).good := by omega
        have hbr : 0 ≤ (s'.line o k).back ∧ (s'.line o k).back ≤ 200 := by omega
        have hst6 := Lib.hid (hst'.out.trans (.of_below hb6))
        have hBx6 := Lib.hid (hBx'.out.below hb6)
        have hmin' := Lib.hid hmin
        have hmr' := Lib.hid hmr
        clear hmin hav hmb hm0 hgb hmr
        by_cases hge : 1 ≤ mm
        · have hge0 : 0 < mm := by omega
          have hfit := Lib.hid (hm'.out.fits hwb hge hmr'.out.1 hmr'.out.2.2.2)
          have htg2 := Lib.hid (show takeGo o k but ((way p).drop (j + 1)) (hold1 s' o k wb mm) (m - mm) = takeS p s o k n but by rw [← hdr'.out, takeGo_one hbut'.out (by rw [← hmin'.out]; exact hge), ← hmin'.out])
          have hlen := ok_len72 hr2.out.holds
          have hble : base ≤ W6.heap.size := Nat.le_trans hbase (Nat.le_trans hb0.size (Nat.le_trans hl0 (Nat.le_trans hst'.out.size hb6.size)))
          have hkr := fits_kept hr'.out hfit.out
          have hw0 : IntKind.i64.wrap (keptAt s'.holds o k wb + mm) = keptAt s'.holds o k wb + mm := IntWalk.i64_in _ (by omega)
          go_wp2_with fail
          clear hmm
          refine wp_region_ops 15 [fun gq _ => gq 52 = .pointer (some ⟨w.heap.size + 1, 2, none⟩), fun gq _ => gq 53 = V'.holds, fun gq _ => gq 54 = .int .i64 o, fun gq _ => gq 55 = .int .i64 k, fun gq _ => gq 56 = .int .i64 wb, fun gq _ => gq 57 = .pointer (some ⟨w.heap.size + 1, 2, none⟩), fun gq _ => gq 58 = V'.holds, fun gq _ => gq 59 = .int .i64 o, fun gq _ => gq 60 = .int .i64 k, fun gq _ => gq 61 = .int .i64 wb, fun gq w' => (fun v w' => v = .int .i64 (keptAt s'.holds o k wb)) (gq 62) w', fun gq _ => gq 63 = .int .i64 mm, fun gq _ => gq 64 = .int .i64 (keptAt s'.holds o k wb + mm), fun gq w' => (fun v w' => Own cHold 4 46 w' W6.heap.size v (hold1 s' o k wb mm).holds) (gq 65) w', fun gq _ => gq 66 = .pointer (some ⟨w.heap.size + 1, 2, none⟩)] (by kernel_rfl) (by kernel_rfl) rfl (by kernel_rfl) ?_ (fun f w2 hb2 hR => ?_)
          simp only [List.take_succ_cons, List.take_zero]
          refine OpsOK.cons (OpOK.val rfl rfl (fun gq w' hb ho hd => ?_)) ?_
          · have e7 := ho 7 rfl
            go_simp
          refine OpsOK.cons (OpOK.val rfl rfl (fun gq w' hb ho hd => ?_)) ?_
          · have e52 : gq 52 = .pointer (some ⟨w.heap.size + 1, 2, none⟩) := hd ⟨0, .data⟩ (by simp) rfl (by decide)
            have x2 := (hBx6.out.below hb).cells.2.2.1
            go_simp
          refine OpsOK.cons (OpOK.val rfl rfl (fun gq w' hb ho hd => ?_)) ?_
          · have e2 := ho 2 rfl
            go_simp
          refine OpsOK.cons (OpOK.val rfl rfl (fun gq w' hb ho hd => ?_)) ?_
          · have e3 := ho 3 rfl
            go_simp
          refine OpsOK.cons (OpOK.val rfl rfl (fun gq w' hb ho hd => ?_)) ?_
          · have e17 := ho 17 rfl
            go_simp
          refine OpsOK.cons (OpOK.val rfl rfl (fun gq w' hb ho hd => ?_)) ?_
          · have e7 := ho 7 rfl
            go_simp
          refine OpsOK.cons (OpOK.val rfl rfl (fun gq w' hb ho hd => ?_)) ?_
          · have e57 : gq 57 = .pointer (some ⟨w.heap.size + 1, 2, none⟩) := hd ⟨5, .data⟩ (by simp) rfl (by decide)
            have x2 := (hBx6.out.below hb).cells.2.2.1
            go_simp
          refine OpsOK.cons (OpOK.val rfl rfl (fun gq w' hb ho hd => ?_)) ?_
          · have e2 := ho 2 rfl
            go_simp
          refine OpsOK.cons (OpOK.val rfl rfl (fun gq w' hb ho hd => ?_)) ?_
          · have e3 := ho 3 rfl
            go_simp
          refine OpsOK.cons (OpOK.val rfl rfl (fun gq w' hb ho hd => ?_)) ?_
          · have e17 := ho 17 rfl
            go_simp
          refine OpsOK.cons (OpOK.one (d := 62) (p := (fun v w' => v = .int .i64 (keptAt s'.holds o k wb))) rfl rfl (fun v w1 w2 h hb => h) (fun gq w' hb ho hd => ?_)) ?_
          · have e58 : gq 58 = V'.holds := hd ⟨6, .data⟩ (by simp) rfl (by decide)
            have e59 : gq 59 = .int .i64 o := hd ⟨7, .data⟩ (by simp) rfl (by decide)
            have e60 : gq 60 = .int .i64 k := hd ⟨8, .data⟩ (by simp) rfl (by decide)
            have e61 : gq 61 = .int .i64 wb := hd ⟨9, .data⟩ (by simp) rfl (by decide)
            have hs := (hBx6.out.below hb).own.holds.sl (by omega)
            unfold OpRel
            go_simp
            refine (rKeptAt w' _ s'.holds o k wb hs).mono ?_
            rintro e w2 ⟨rfl, rfl⟩
            exact ⟨_, rfl, rfl, Below.refl _ _⟩
          refine OpsOK.cons (OpOK.val rfl rfl (fun gq w' hb ho hd => ?_)) ?_
          · have e18 := ho 18 rfl
            go_simp
          refine OpsOK.cons (OpOK.val rfl rfl (fun gq w' hb ho hd => ?_)) ?_
          · have e62 : (gq 62) = .int .i64 (keptAt s'.holds o k wb) := hd ⟨10, .data⟩ (by simp) rfl (by decide)
            have e63 : gq 63 = .int .i64 mm := hd ⟨11, .data⟩ (by simp) rfl (by decide)
            go_simp
          refine OpsOK.cons (OpOK.one (d := 65) (p := (fun v w' => Own cHold 4 46 w' W6.heap.size v (hold1 s' o k wb mm).holds)) rfl rfl (fun v w1 w2 h hb => h.below hb) (fun gq w' hb ho hd => ?_)) ?_
          · have e53 : gq 53 = V'.holds := hd ⟨1, .data⟩ (by simp) rfl (by decide)
            have e54 : gq 54 = .int .i64 o := hd ⟨2, .data⟩ (by simp) rfl (by decide)
            have e55 : gq 55 = .int .i64 k := hd ⟨3, .data⟩ (by simp) rfl (by decide)
            have e56 : gq 56 = .int .i64 wb := hd ⟨4, .data⟩ (by simp) rfl (by decide)
            have e64 : gq 64 = .int .i64 (keptAt s'.holds o k wb + mm) := hd ⟨12, .data⟩ (by simp) rfl (by decide)
            have hs := (hBx6.out.below hb).own.holds.sl (by omega)
            unfold OpRel
            go_simp
            refine (rWith w' _ s'.holds o k wb _ hs hr2.out.holds (key_of hr2.out hm'.out.ho hm'.out.hk hwb)).mono ?_
            rintro e w2 ⟨u, rfl, hu, hb2⟩
            exact ⟨u, rfl, hu.from_ hb.size, hb2⟩
          refine OpsOK.cons (OpOK.val rfl rfl (fun gq w' hb ho hd => ?_)) ?_
          · have e7 := ho 7 rfl
            go_simp
          exact OpsOK.nil
          obtain ⟨r52, r53, r54, r55, r56, r57, r58, r59, r60, r61, r62, r63, r64, r65, r66, _⟩ := hR
          replace r62 : (f 62) = .int .i64 (keptAt s'.holds o k wb) := r62
          replace r65 : Own cHold 4 46 w2 W6.heap.size (f 65) (hold1 s' o k wb mm).holds := r65
          simp only [fillA, fillT, List.take_succ_cons, List.take_zero, List.drop_succ_cons, List.drop_zero, List.filterMap_cons, List.filterMap_nil, List.foldl_cons, List.foldl_nil, List.setIfInBounds_toArray, List.set_cons_zero, List.set_cons_succ, r52, r53, r54, r55, r56, r57, r58, r59, r60, r61, r62, r63, r64, r66]
          clear r52 r53 r54 r55 r56 r57 r58 r59 r60 r61 r62 r63 r64 r66
          obtain ⟨A7, c7, hv7⟩ := r65.isSlice
          rw [hv7] at r65
          simp only [hv7]
          have hBx7 := Lib.hid (hBx6.out.below hb2)
          have hu7 := Lib.hid (r65.from_ hble)
          clear r65 hv7
          refine wp_st_holds rfl (.tmp 66) (.tmp 65) rfl rfl A7 _ c7 _ hBx7.out rfl rfl hu7.out (fun w8 hBx8 hst8 => ?_)
          refine wpList_nil ?_
          have hv8 : V'.line o = .slice (some ⟨gl, 0, none⟩) (s.order o).lines.length cl := by rw [hsb'.out]; exact e1
          obtain ⟨hgll8, f0, f1, f2, f3⟩ := hBx8.own.lineCells (s := { s' with holds := (hold1 s' o k wb mm).holds }) hm'.out.ho hm'.out.hk hv8
          obtain ⟨go8, co8, curo8, eo8, hgo8, hblko8, z0, z1⟩ := hBx8.own.orderAt (s := { s' with holds := (hold1 s' o k wb mm).holds }) hm'.out.ho
          obtain ⟨c0, c1, c2, c3, c4, c5, c6⟩ := hBx8.cells
          rw [eo8] at c1
          have z1' : w8.cell? ⟨go8, o * 2 + 1, none⟩ = some (V'.line o) := z1
          rw [hv8] at z1'
          have hon8 : (o : Int) < (s'.orders.length : Int) := by have := hm'.out.ho; omega
          have hkn8 : (k : Int) < ((s.order o).lines.length : Int) := by omega
          have hBx8' := Lib.hid hBx8
          have hw1 : IntKind.i64.wrap ((s'.line o k).back - mm) = (s'.line o k).back - mm := IntWalk.i64_in _ (by omega)
          have hw2 : IntKind.i64.wrap (m - mm) = m - mm := IntWalk.i64_in _ (by have := hmr'.out; omega)
          have f3' : w8.cell? ⟨gl, k * 4 + 3, none⟩ = some (.int .i64 (s'.line o k).back) := f3
          have hv8' := Lib.hid hv8
          clear hBx8 f0 f1 f2 f3 z0 z1 c0 c2 c3 c4 c5 c6 eo8 hblko8 hv8 hw0
          go_wp2_with fail
          go_still_tail 21, (by kernel_rfl)
          change wpList _ _ _ _ _ w8.drew
          refine wp_st_line rfl (.tmp 87) (.tmp 85) rfl rfl (j := 3) (y := { s'.line o k with back := (s'.line o k).back - mm }) hBx8'.out.drew hm'.out.ho hm'.out.hk hv8'.out (by decide) rfl rfl rfl (fun w9 hBx9 hst9 => ?_)
          refine wpList_nil ?_
          have hBx9' := Lib.hid (show Bx w9 base (w.heap.size + 1) 31 [] { V' with holds := .slice A7 (hold1 s' o k wb mm).holds.length c7 } (hold1 s' o k wb mm) from hBx9)
          have hst9' := Lib.hid (((hst6.out.trans (.of_below hb2)).trans (hst8.mono fun _ h => .inl h)).trans ((Step.of_below (Below.refl _ _).drew).trans (hst9.mono fun q hq => .inr (by rw [hq, e1]; rfl))))
          have hgd9 := Lib.hid (show ((hold1 s' o k wb mm).line o k).good = (s.line o k).good by rw [(hold1_fixedLine hfit.out o k).1]; exact hgd'.out)
          clear f3' hBx9 hst9 hst8 c1 z1'
          go_wp2_with fail
          go_roundw
          case rel => exact ⟨j + 1, hold1 s' o k wb mm, m - mm, _, show _ = _ by rw [hsb'.out], by omega, by go_num, rfl, hold1_right hr'.out hfit.out, hm'.out.held (Held.one hr'.out hfit.out) hmr'.out.1, htg2.out, hBx9'.out, hgd9.out, hst9'.out⟩
          case measure => simp [intOf]; omega
        · have hle0 : ¬ 0 < mm := by omega
          have htg2 := Lib.hid (show takeGo o k but ((way p).drop (j + 1)) s' m = takeS p s o k n but by rw [← hdr'.out, takeGo_skip (.inr (by rw [← hmin'.out]; omega))])
          clear hge
          go_wp2_with fail
          clear hmm
          go_roundw
          case rel => exact ⟨j + 1, s', m, V', hsb'.out, by omega, by go_num, rfl, hr'.out, hm'.out, htg2.out, hBx6.out, hgd'.out, hst6.out⟩
          case measure => simp [intOf]; omega
    · obtain rfl : j = (way p).length := by omega
      have hfin := Lib.hid (show (s', m) = takeS p s o k n but by rw [← htg'.out, List.drop_length]; rfl)
      have hsb' := Lib.hid hsb
      obtain ⟨c0, c1, c2, c3, c4, c5, c6⟩ := hBx.cells
      have hres9 : BoxAt wr (w.heap.size + 1 + 1) nilSV := hst.blk hres1.out.blk (fun h => by have := hks.out _ h; omega)
      have hone := hBx.own.one
      clear hr hm htg hBx hst hsb
      go_wp2_with (refine wpList_store_state rfl (.tmp 12) (.tmp 91) rfl rfl (w.heap.size + 1 + 1) nilSV V' hres9 rfl rfl hone (fun w9 hbox9 hg9 => ?_))
      have hO9 := hBx'.out.own.keptBy hg9 hres9.blk (by decide) (by decide) (by decide) (by decide) (by decide) (by decide)
      obtain ⟨p0, p1, p2, p3, p4, p5, p6⟩ := hbox9.cells
      have hfin9 : Step (fun j => (V.line o).ownBlock = some j) w w9 :=
        ((Step.of_below (hb0.trans (h1.mono hb0.size))).trans' hst'.out (fun q hq h => h.resolve_left (by omega))).trans' (Step.of_grown (ks := fun q => q = w.heap.size + 1 + 1) hg9 (fun q hq => by injection hq with hq; exact hq.symm)) (fun q hq h => by omega)
      clear c0 c1 c2 c3 c4 c5 c6
      go_wp2_with fail
      exact bodyPost_ret (v := .tuple #[V'.val, .int .i64 m]) (by simp [results, Tryz.results74, go_sem, SV.val, p0, p1, p2, p3, p4, p5, p6]) rfl ⟨V', hsb'.out, by rw [← hfin.out], by rw [← hfin.out]; exact hO9, hfin9⟩
end Wh
