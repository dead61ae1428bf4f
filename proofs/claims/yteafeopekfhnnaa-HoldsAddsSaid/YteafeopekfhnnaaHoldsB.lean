/- holds.fine, holds.Check, R.CheckHolds: walks -/
import Derived.Test.YteafeopekfhnnaaHoldsA
namespace Wh
open Go Go.RowKit Go.Shelf Go.Proofs
attribute [local go_sem] run_indexAt_letter

theorem hold_parts (h : Hold) : (min (min h.order h.line) h.bin < 0 ∧ holdFine h = false) ∨ (0 ≤ min (min h.order h.line) h.bin ∧ 4 ≤ h.order ∧ holdFine h = false) ∨
    (0 ≤ min (min h.order h.line) h.bin ∧ h.order < 4 ∧ 3 ≤ h.line ∧ holdFine h = false) ∨ (0 ≤ min (min h.order h.line) h.bin ∧ h.order < 4 ∧ h.line < 3 ∧ 6 ≤ h.bin ∧ holdFine h = false) ∨
    (0 ≤ min (min h.order h.line) h.bin ∧ h.order < 4 ∧ h.line < 3 ∧ h.bin < 6 ∧ h.n < 1 ∧ holdFine h = false) ∨ (0 ≤ min (min h.order h.line) h.bin ∧ h.order < 4 ∧ h.line < 3 ∧ h.bin < 6 ∧ 1 ≤ h.n ∧ 200 < h.n ∧ holdFine h = false) ∨
    (0 ≤ min (min h.order h.line) h.bin ∧ h.order < 4 ∧ h.line < 3 ∧ h.bin < 6 ∧ 1 ≤ h.n ∧ h.n ≤ 200 ∧ holdFine h = true) := by
  have hi := @fine_iff h
  unfold keyOk at hi
  cases hf : holdFine h
  · rw [hf] at hi
    simp only [Bool.false_eq_true, false_iff] at hi
    simp only [and_true, reduceCtorEq, and_false, or_false]
    omega
  · rw [hf] at hi
    simp only [true_iff] at hi
    simp only [and_true, reduceCtorEq, and_false, false_or]
    omega

set_option maxHeartbeats 1000000 in
theorem hdFine (h : Hold) (w : World) : Calls Try.prog 61 #[vHold h] w fun e w' => e = .returned (.bool (holdFine h)) ∧ Below w.heap.size w w' := by
  unfold vHold
  rcases hold_parts h with ⟨g1, hf⟩ | ⟨g1, g2, hf⟩ | ⟨g1, g2, g3, hf⟩ | ⟨g1, g2, g3, g4, hf⟩ | ⟨g1, g2, g3, g4, g5, hf⟩ | ⟨g1, g2, g3, g4, g5, g6, hf⟩ | ⟨g1, g2, g3, g4, g5, g6, hf⟩
  all_goals
    have hf' := Lib.hid hf
    clear hf
    go_enter Try.func61, Try.ntmps61
    go_wp2
    all_goals
      go_ret
      exact ⟨ret_bool (by rw [hf'.out] <;> first | rfl | (simp <;> omega)), (Below.refl _ _).alloc (Nat.le_refl _) _⟩

def stepOk (l : List Hold) (k : Nat) : Bool := holdFine (hold l k) && (decide (k = 0) || decide (place (hold l (k - 1)) < place (hold l k)))
theorem holds_step {l : List Hold} {k : Nat} (hk : k < l.length) (h : stepOk l k = false) : checkHolds l = 1 := by
  unfold checkHolds
  rw [if_neg]
  intro hc
  have := List.all_eq_true.1 hc k (List.mem_range.2 hk)
  unfold stepOk at h
  rw [h] at this
  cases this
theorem holds_all {l : List Hold} (h : ∀ k, k < l.length → stepOk l k = true) : checkHolds l = 0 := by
  unfold checkHolds
  rw [if_pos]
  exact List.all_eq_true.2 fun k hk => h k (List.mem_range.1 hk)
theorem step_fine {l : List Hold} {k : Nat} (h : stepOk l k = true) : holdFine (hold l k) = true := by
  unfold stepOk at h
  simp only [Bool.and_eq_true] at h
  exact h.1
theorem step_no {l : List Hold} {k : Nat} (h : holdFine (hold l k) = false) : stepOk l k = false := by
  unfold stepOk
  rw [h]; rfl
theorem step_zero {l : List Hold} (h : holdFine (hold l 0) = true) : stepOk l 0 = true := by
  unfold stepOk
  rw [h]; rfl
theorem step_succ {l : List Hold} {k : Nat} (h : holdFine (hold l (k + 1)) = true) : stepOk l (k + 1) = decide (place (hold l k) < place (hold l (k + 1))) := by
  unfold stepOk
  rw [h]
  simp
theorem step_ord {l : List Hold} {k : Nat} (h : holdFine (hold l (k + 1)) = true) (h0 : holdFine (hold l k) = true) : stepOk l (k + 1) = decide (ord (hold l k) (hold l (k + 1)) < 0) := by
  rw [step_succ h]
  congr 1
  rw [ord_place (fine_iff.1 h0).1 (fine_iff.1 h).1]

set_option maxHeartbeats 1000000 in
theorem hdCheck (w : World) (v : Value) (l : List Hold) (hv : Sl cHold w w.heap.size v l) :
    Calls Try.prog 35 #[v] w fun e w' => e = .returned (.int .i64 (checkHolds l)) ∧ Below w.heap.size w w' := by
  obtain ⟨A, c, rfl, hl, hA⟩ := hv
  go_enter Try.func35, Try.ntmps35
  go_wp2_with fail
  go_loopw [7, 3, 4] (fun i _ _ wr => ∃ k : Nat, k ≤ l.length ∧ i = .int .i64 k ∧ (∀ j, j < k → stepOk l j = true) ∧ Below w.heap.size w wr) (fun i _ _ _ => l.length - (intOf i).toNat)
  case atStart => exact ⟨0, Nat.zero_le _, rfl, fun j hj => by omega, Below.refl _ _⟩
  case round =>
    obtain ⟨k, hk, rfl, hall, hbw⟩ := hrel
    by_cases hlt : k < l.length
    · obtain ⟨hok, hAb, b0, b1, b2, b3⟩ := (hA.up hbw hbw.size).hold hlt
      have hba : Below w.heap.size w (wr.alloc (.cells #[.int .i64 (hold l k).order, .int .i64 (hold l k).line, .int .i64 (hold l k).bin, .int .i64 (hold l k).n] 58)) := hbw.alloc hbw.size _
      have q0 := fun o d os => cells_wld (w := wr.alloc (.cells #[.int .i64 (hold l k).order, .int .i64 (hold l k).line, .int .i64 (hold l k).bin, .int .i64 (hold l k).n] 58)) (b := wr.heap.size) (by simp) o d os
      cases hf : holdFine (hold l k)
      · go_wp2_with fail
        refine wp_region_wld (by kernel_rfl) (by kernel_rfl) ?_
        repeat (go_big_quiet_step ((go_at_call 61; refine calls_wld (hdFine (hold l k) _))))
        refine wpQuiet_nil ?_
        intro W2 hw'
        have hb2 := below_of_cls hw'
        clear hw'
        go_wp2_with fail
        go_ret
        exact ⟨ret_int (holds_step hlt (step_no hf)).symm, hba.trans (hb2.mono hba.size)⟩
      · rcases k with _ | m
        · have hst := step_zero hf
          simp only [Nat.zero_mul, Nat.add_zero] at b0 b1 b2 b3
          go_wp2_with fail
          refine wp_region_wld (by kernel_rfl) (by kernel_rfl) ?_
          repeat (go_big_quiet_step ((go_at_call 61; refine calls_wld (hdFine (hold l 0) _))))
          refine wpQuiet_nil ?_
          intro W2 hw'
          have hb2 := below_of_cls hw'
          clear hw'
          go_wp2_with fail
          go_roundw
          case rel => exact ⟨1, by omega, by go_num, fun j hj => by (obtain rfl : j = 0 := by omega); exact hst, hba.trans (hb2.mono hba.size)⟩
          case measure => simp [intOf]; omega
        · obtain ⟨_, _, c0, c1, c2, c3⟩ := (hA.up hbw hbw.size).hold (show m < l.length by omega)
          have qA := fun o d os => cells_wld (w := wr.alloc (.cells #[.int .i64 (hold l (m + 1)).order, .int .i64 (hold l (m + 1)).line, .int .i64 (hold l (m + 1)).bin, .int .i64 (hold l (m + 1)).n] 58)) (b := ablk A) (by simp; omega) o d os
          have hst := step_ord hf (step_fine (hall m (by omega)))
          by_cases ho : ord (hold l m) (hold l (m + 1)) < 0
          · have hst' := Lib.hid (show stepOk l (m + 1) = true by rw [hst]; simpa using ho)
            clear hst
            go_wp2_with fail
            refine wp_region_wld (by kernel_rfl) (by kernel_rfl) ?_
            repeat (go_big_quiet_step ((first | (go_at_call 61; refine calls_wld (hdFine (hold l (m + 1)) _)) | (go_at_call 62; refine calls_wld (hdOrder (hold l m) (hold l (m + 1)) _)))))
            refine wpQuiet_nil ?_
            intro W2 hw'
            have hb2 := below_of_cls hw'
            clear hw'
            go_wp2_with fail
            go_roundw
            case rel =>
              refine ⟨m + 2, by omega, by go_num, fun j hj => ?_, hba.trans (hb2.mono hba.size)⟩
              rcases Nat.lt_succ_iff_lt_or_eq.1 hj with h | rfl
              · exact hall j h
              · exact hst'.out
            case measure => simp [intOf]; omega
          · have hst' := Lib.hid (show stepOk l (m + 1) = false by rw [hst]; simpa using ho)
            have ho' : 0 ≤ ord (hold l m) (hold l (m + 1)) := by omega
            clear hst ho
            go_wp2_with fail
            refine wp_region_wld (by kernel_rfl) (by kernel_rfl) ?_
            repeat (go_big_quiet_step ((first | (go_at_call 61; refine calls_wld (hdFine (hold l (m + 1)) _)) | (go_at_call 62; refine calls_wld (hdOrder (hold l m) (hold l (m + 1)) _)))))
            refine wpQuiet_nil ?_
            intro W2 hw'
            have hb2 := below_of_cls hw'
            clear hw'
            go_wp2_with fail
            go_ret
            exact ⟨ret_int (holds_step hlt hst'.out).symm, hba.trans (hb2.mono hba.size)⟩
    · obtain rfl : k = l.length := by omega
      have hfin := Lib.hid (holds_all hall)
      go_wp2_with fail
      go_ret
      exact ⟨ret_int hfin.out.symm, hbw⟩

set_option maxHeartbeats 1000000 in
theorem rCheckHolds (w : World) (v : Value) (l : List Hold) (hv : Sl cHold w w.heap.size v l) :
    Calls Try.prog 32 #[v] w fun e w' => e = .returned (.int .i64 (checkHolds l)) ∧ Below w.heap.size w w' := by
  obtain ⟨A, c, rfl, hl, hA⟩ := hv
  go_enter Try.func32, Try.ntmps32
  go_wp2_with fail
  go_loopw [3] (fun i wr => ∃ k : Nat, k ≤ l.length ∧ i = .int .i64 k ∧ (∀ j, j < k → stepOk l j = true) ∧ Below w.heap.size w wr) (fun i _ => l.length - (intOf i).toNat)
  case atStart => exact ⟨0, Nat.zero_le _, rfl, fun j hj => by omega, Below.refl _ _⟩
  case round =>
    obtain ⟨k, hk, rfl, hall, hbw⟩ := hrel
    by_cases hlt : k < l.length
    · obtain ⟨hok, hAb, b0, b1, b2, b3⟩ := (hA.up hbw hbw.size).hold hlt
      have qA := fun o d os => cells_wld (w := wr) (b := ablk A) hAb o d os
      cases hf : holdFine (hold l k)
      · go_wp2_with fail
        refine wp_region_wld (by kernel_rfl) (by kernel_rfl) ?_
        repeat (go_big_quiet_step ((go_at_call 59; refine calls_wld (rHoldFine (hold l k) _))))
        refine wpQuiet_nil ?_
        intro W2 hw'
        have hb2 := below_of_cls hw'
        clear hw'
        go_wp2_with fail
        go_ret
        exact ⟨ret_int (holds_step hlt (step_no hf)).symm, hbw.trans (hb2.mono hbw.size)⟩
      · rcases k with _ | m
        · have hst := step_zero hf
          simp only [Nat.zero_mul, Nat.add_zero] at b0 b1 b2 b3
          go_wp2_with fail
          refine wp_region_wld (by kernel_rfl) (by kernel_rfl) ?_
          repeat (go_big_quiet_step ((go_at_call 59; refine calls_wld (rHoldFine (hold l 0) _))))
          refine wpQuiet_nil ?_
          intro W2 hw'
          have hb2 := below_of_cls hw'
          clear hw'
          go_wp2_with fail
          go_roundw
          case rel => exact ⟨1, by omega, by go_num, fun j hj => by (obtain rfl : j = 0 := by omega); exact hst, hbw.trans (hb2.mono hbw.size)⟩
          case measure => simp [intOf]; omega
        · obtain ⟨_, _, c0, c1, c2, c3⟩ := (hA.up hbw hbw.size).hold (show m < l.length by omega)
          have hst := step_succ hf
          have hk0 := (fine_iff.1 (step_fine (hall m (by omega)))).1
          have hk1 := (fine_iff.1 hf).1
          have hK0 := Lib.hid hk0
          have hK1 := Lib.hid hk1
          clear hk0 hk1
          by_cases ho : place (hold l m) < place (hold l (m + 1))
          · have hst' := Lib.hid (show stepOk l (m + 1) = true by rw [hst]; simpa using ho)
            clear hst
            go_wp2_with fail
            refine wp_region_wld (by kernel_rfl) (by kernel_rfl) ?_
            repeat (go_big_quiet_step ((first | (go_at_call 59; refine calls_wld (rHoldFine (hold l (m + 1)) _)) | (go_at_call 60; refine calls_wld (rPlace _ _ (by first | exact hK0.out | exact hK1.out))))))
            refine wpQuiet_nil ?_
            intro W2 hw'
            have hb2 := below_of_cls hw'
            clear hw'
            go_wp2_with fail
            go_roundw
            case rel =>
              refine ⟨m + 2, by omega, by go_num, fun j hj => ?_, hbw.trans (hb2.mono hbw.size)⟩
              rcases Nat.lt_succ_iff_lt_or_eq.1 hj with h | rfl
              · exact hall j h
              · exact hst'.out
            case measure => simp [intOf]; omega
          · have hst' := Lib.hid (show stepOk l (m + 1) = false by rw [hst]; simpa using ho)
            have ho' : place (hold l (m + 1)) ≤ place (hold l m) := by omega
            clear hst ho
            go_wp2_with fail
            refine wp_region_wld (by kernel_rfl) (by kernel_rfl) ?_
            repeat (go_big_quiet_step ((first | (go_at_call 59; refine calls_wld (rHoldFine (hold l (m + 1)) _)) | (go_at_call 60; refine calls_wld (rPlace _ _ (by first | exact hK0.out | exact hK1.out))))))
            refine wpQuiet_nil ?_
            intro W2 hw'
            have hb2 := below_of_cls hw'
            clear hw'
            go_wp2_with fail
            go_ret
            exact ⟨ret_int (holds_step hlt hst'.out).symm, hbw.trans (hb2.mono hbw.size)⟩
    · obtain rfl : k = l.length := by omega
      have hfin := Lib.hid (holds_all hall)
      go_wp2_with fail
      go_ret
      exact ⟨ret_int hfin.out.symm, hbw⟩
end Wh
