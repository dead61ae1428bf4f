/- Texts of the claim, joined: HoldsA, HoldsB, HoldsC, WalkL, WalkN. -/
import Derived.Deep.RegionHeld3
import Derived.Laws.StructEq
import Derived.Test.YtfhfkijmebhgmaaGreatQ04
import Derived.Test.YtfhfkijmebhgmaaGreatQ06
import Derived.Test.YtfhfkijmebhgmaaGreatQ03
import Derived.Test.YtfhfkijmebhgmaaGreatQ08
namespace Wh
open Go Go.RowKit Go.Shelf Go.Proofs
attribute [local go_sem] run_indexAt_letter

set_option maxHeartbeats 400000 in
theorem cmpNaN (n : Int) (w : World) : Calls Tryz.prog 190 #[.int .i64 n] w fun e w' => e = .returned (.bool false) ∧ w = w' := by
  go_enter Tryz.func190, Tryz.ntmps190
  go_wp2
  go_ret
  exact ⟨by simp, rfl⟩
set_option maxHeartbeats 400000 in
theorem cmpCompare (a b : Int) (w : World) : Calls Tryz.prog 184 #[.int .i64 a, .int .i64 b] w fun e w' => e = .returned (.int .i64 (cmp3 a b)) ∧ w = w' := by
  rcases cmp3_cases a b with ⟨h1, h2⟩ | ⟨h1, h2⟩ | ⟨h1, h2⟩
  · go_enter Tryz.func184, Tryz.ntmps184
    go_wp2_with (go_at_call 190; refine (cmpNaN _ _).mono ?_; rintro e w' ⟨rfl, rfl⟩)
    go_ret
    exact ⟨ret_int h2.symm, rfl⟩
  · go_enter Tryz.func184, Tryz.ntmps184
    go_wp2_with (go_at_call 190; refine (cmpNaN _ _).mono ?_; rintro e w' ⟨rfl, rfl⟩)
    go_ret
    exact ⟨ret_int h2.symm, rfl⟩
  · subst h1
    go_enter Tryz.func184, Tryz.ntmps184
    go_wp2_with (go_at_call 190; refine (cmpNaN _ _).mono ?_; rintro e w' ⟨rfl, rfl⟩)
    go_ret
    exact ⟨ret_int h2.symm, rfl⟩

def or3 (a b c : Int) : Int := if a ≠ 0 then a else if b ≠ 0 then b else c
set_option maxHeartbeats 1000000 in
theorem cmpOr (a b c : Int) (w : World) (bl off k : Nat) (h0 : w.cell? ⟨bl, off, none⟩ = some (.int .i64 a)) (h1 : w.cell? ⟨bl, off + 1, none⟩ = some (.int .i64 b)) (h2 : w.cell? ⟨bl, off + 2, none⟩ = some (.int .i64 c)) :
    Calls Tryz.prog 183 #[.slice (some ⟨bl, off, none⟩) 3 k] w fun e w' => e = .returned (.int .i64 (or3 a b c)) ∧ w = w' := by
  by_cases ha : a = 0
  · subst ha
    by_cases hb : b = 0
    · subst hb
      have hfin : or3 0 0 c = c := by simp [or3]
      by_cases hc : c = 0
      · subst hc
        go_enter Tryz.func183, Tryz.ntmps183
        go_wp2_with fail
        refine wp_loop_rounds 4 ?_
        rw [rounds_succ]
        go_wp2_with fail
        rw [rounds_succ]
        go_wp2_with fail
        rw [rounds_succ]
        go_wp2_with fail
        rw [rounds_succ]
        go_wp2_with fail
        go_ret
        exact ⟨ret_int hfin.symm, rfl⟩
      · have hc' : (c != 0) = true := by simpa using hc
        go_enter Tryz.func183, Tryz.ntmps183
        go_wp2_with fail
        refine wp_loop_rounds 4 ?_
        rw [rounds_succ]
        go_wp2_with fail
        rw [rounds_succ]
        go_wp2_with fail
        rw [rounds_succ]
        go_wp2_with fail
        go_ret
        exact ⟨ret_int hfin.symm, rfl⟩
    · have hfin : or3 0 b c = b := by simp [or3, hb]
      have hb' : (b != 0) = true := by simpa using hb
      go_enter Tryz.func183, Tryz.ntmps183
      go_wp2_with fail
      refine wp_loop_rounds 4 ?_
      rw [rounds_succ]
      go_wp2_with fail
      rw [rounds_succ]
      go_wp2_with fail
      go_ret
      exact ⟨ret_int hfin.symm, rfl⟩
  · have hfin : or3 a b c = a := by simp [or3, ha]
    have ha' : (a != 0) = true := by simpa using ha
    go_enter Tryz.func183, Tryz.ntmps183
    go_wp2_with fail
    refine wp_loop_rounds 4 ?_
    rw [rounds_succ]
    go_wp2_with fail
    go_ret
    exact ⟨ret_int hfin.symm, rfl⟩

set_option maxHeartbeats 400000 in
theorem hdOrder (a b : Hold) (w : World) : Calls Tryz.prog 167 #[vHold a, vHold b] w fun e w' => e = .returned (.int .i64 (ord a b)) ∧ Below w.heap.size w w' := by
  unfold vHold
  go_enter Tryz.func167, Tryz.ntmps167
  go_wp2_with fail
  go_region_held3 (fun w' => w'.cell? ⟨w.heap.size, 0, none⟩ = some (.int .i64 a.order) ∧ w'.cell? ⟨w.heap.size, 1, none⟩ = some (.int .i64 a.line) ∧ w'.cell? ⟨w.heap.size, 2, none⟩ = some (.int .i64 a.bin) ∧
    w'.cell? ⟨w.heap.size + 1, 0, none⟩ = some (.int .i64 b.order) ∧ w'.cell? ⟨w.heap.size + 1, 1, none⟩ = some (.int .i64 b.line) ∧ w'.cell? ⟨w.heap.size + 1, 2, none⟩ = some (.int .i64 b.bin)) (first | go_keep)
    (first
    | (go_at_call 184; refine (cmpCompare _ _ _).mono ?_; rintro e w' ⟨rfl, rfl⟩)
    | (go_at_call 183; refine (cmpOr (cmp3 a.order b.order) (cmp3 a.line b.line) (cmp3 a.bin b.bin) _ _ _ _ (by go_simp) (by go_simp) (by go_simp)).mono ?_; rintro e w' ⟨rfl, rfl⟩))
  go_wp2_with fail
  go_ret
  exact ⟨rfl, ((((Below.refl _ _).alloc (Nat.le_refl _) _).alloc (by simp) _).alloc (by simp; omega) _).drew⟩

set_option maxHeartbeats 1000000 in
theorem rPlace (h : Hold) (w : World) (hk : keyOk h.order h.line h.bin) : Calls Tryz.prog 125 #[vHold h] w fun e w' => e = .returned (.int .i64 (place h)) ∧ Below w.heap.size w w' := by
  obtain ⟨⟨a1, a2⟩, ⟨b1, b2⟩, ⟨c1, c2⟩⟩ := hk
  unfold vHold
  go_enter Tryz.func125, Tryz.ntmps125
  go_wp2
  go_ret
  exact ⟨rfl, (Below.refl _ _).alloc (Nat.le_refl _) _⟩

theorem fine_parts (h : Hold) : (within h.order 0 3 = false ∧ holdFine h = false) ∨ (within h.order 0 3 = true ∧ within h.line 0 2 = false ∧ holdFine h = false) ∨
    (within h.order 0 3 = true ∧ within h.line 0 2 = true ∧ within h.bin 0 5 = false ∧ holdFine h = false) ∨ (within h.order 0 3 = true ∧ within h.line 0 2 = true ∧ within h.bin 0 5 = true ∧ holdFine h = within h.n 1 200) := by
  unfold holdFine
  cases within h.order 0 3 <;> cases within h.line 0 2 <;> cases within h.bin 0 5 <;> simp

set_option maxHeartbeats 1000000 in
theorem rHoldFine (h : Hold) (w : World) : Calls Tryz.prog 151 #[vHold h] w fun e w' => e = .returned (.bool (holdFine h)) ∧ Below w.heap.size w w' := by
  unfold vHold
  rcases fine_parts h with ⟨g1, hf⟩ | ⟨g1, g2, hf⟩ | ⟨g1, g2, g3, hf⟩ | ⟨g1, g2, g3, hf⟩
  all_goals
    go_enter Tryz.func151, Tryz.ntmps151
    go_wp2_with (go_at_call 38; refine (rWithin _ _ _ _).mono ?_; rintro e w' ⟨rfl, rfl⟩)
    go_ret
    exact ⟨ret_bool hf.symm, (Below.refl _ _).alloc (Nat.le_refl _) _⟩
end Wh
namespace Wh
open Go Go.RowKit Go.Shelf Go.Proofs
attribute [local go_sem] run_indexAt_letter

theorem hold_parts (h : Hold) : (min (min h.order h.line) h.bin < 0 ∧ holdFine h = false) ∨ (0 ≤ min (min h.order h.line) h.bin ∧ 4 ≤ h.order ∧ holdFine h = false) ∨
    (0 ≤ min (min h.order h.line) h.bin ∧ h.order < 4 ∧ 3 ≤ h.line ∧ holdFine h = false) ∨ (0 ≤ min (min h.order h.line) h.bin ∧ h.order < 4 ∧ h.line < 3 ∧ 6 ≤ h.bin ∧ holdFine h = false) ∨
    (0 ≤ min (min h.order h.line) h.bin ∧ h.order < 4 ∧ h.line < 3 ∧ h.bin < 6 ∧ h.n < 1 ∧ holdFine h = false) ∨ (0 ≤ min (min h.order h.line) h.bin ∧ h.order < 4 ∧ h.line < 3 ∧ h.bin < 6 ∧ 1 ≤ h.n ∧ 200 < h.n ∧ holdFine h = false) ∨
    (0 ≤ min (min h.order h.line) h.bin ∧ h.order < 4 ∧ h.line < 3 ∧ h.bin < 6 ∧ 1 ≤ h.n ∧ h.n ≤ 200 ∧ holdFine h = true) := by
  have hi := @fine_iff h
  unfold keyOk at hi
  cases hf : holdFine h
  · rw [hf] at hi
    simp only [Bool.false_eq_true, false_iff] at hi
    simp only [and_true, reduceCtorEq, and_false, or_false]
    omega
  · rw [hf] at hi
    simp only [true_iff] at hi
    simp only [and_true, reduceCtorEq, and_false, false_or]
    omega

set_option maxHeartbeats 1000000 in
theorem hdFine (h : Hold) (w : World) : Calls Tryz.prog 164 #[vHold h] w fun e w' => e = .returned (.bool (holdFine h)) ∧ Below w.heap.size w w' := by
  unfold vHold
  rcases hold_parts h with ⟨g1, hf⟩ | ⟨g1, g2, hf⟩ | ⟨g1, g2, g3, hf⟩ | ⟨g1, g2, g3, g4, hf⟩ | ⟨g1, g2, g3, g4, g5, hf⟩ | ⟨g1, g2, g3, g4, g5, g6, hf⟩ | ⟨g1, g2, g3, g4, g5, g6, hf⟩
  all_goals
    have hf' := Lib.hid hf
    clear hf
    go_enter Tryz.func164, Tryz.ntmps164
    go_wp2
    all_goals
      go_ret
      exact ⟨ret_bool (by rw [hf'.out] <;> first | rfl | (simp <;> omega)), (Below.refl _ _).alloc (Nat.le_refl _) _⟩

def stepOk (l : List Hold) (k : Nat) : Bool := holdFine (hold l k) && (decide (k = 0) || decide (place (hold l (k - 1)) < place (hold l k)))
theorem holds_step {l : List Hold} {k : Nat} (hk : k < l.length) (h : stepOk l k = false) : checkHolds l = 1 := by
  unfold checkHolds
  rw [if_neg]
  intro hc
  have := List.all_eq_true.1 hc k (List.mem_range.2 hk)
  unfold stepOk at h
  rw [h] at this
  cases this
theorem holds_all {l : List Hold} (h : ∀ k, k < l.length → stepOk l k = true) : checkHolds l = 0 := by
  unfold checkHolds
  rw [if_pos]
  exact List.all_eq_true.2 fun k hk => h k (List.mem_range.1 hk)
theorem step_fine {l : List Hold} {k : Nat} (h : stepOk l k = true) : holdFine (hold l k) = true := by
  unfold stepOk at h
  simp only [Bool.and_eq_true] at h
  exact h.1
theorem step_no {l : List Hold} {k : Nat} (h : holdFine (hold l k) = false) : stepOk l k = false := by
  unfold stepOk
  rw [h]; rfl
theorem step_zero {l : List Hold} (h : holdFine (hold l 0) = true) : stepOk l 0 = true := by
  unfold stepOk
  rw [h]; rfl
theorem step_succ {l : List Hold} {k : Nat} (h : holdFine (hold l (k + 1)) = true) : stepOk l (k + 1) = decide (place (hold l k) < place (hold l (k + 1))) := by
  unfold stepOk
  rw [h]
  simp
theorem step_ord {l : List Hold} {k : Nat} (h : holdFine (hold l (k + 1)) = true) (h0 : holdFine (hold l k) = true) : stepOk l (k + 1) = decide (ord (hold l k) (hold l (k + 1)) < 0) := by
  rw [step_succ h]
  congr 1
  rw [ord_place (fine_iff.1 h0).1 (fine_iff.1 h).1]

set_option maxHeartbeats 1000000 in
theorem hdCheck (w : World) (v : Value) (l : List Hold) (hv : Sl cHold w w.heap.size v l) :
    Calls Tryz.prog 136 #[v] w fun e w' => e = .returned (.int .i64 (checkHolds l)) ∧ Below w.heap.size w w' := by
  obtain ⟨A, c, rfl, hl, hA⟩ := hv
  go_enter Tryz.func136, Tryz.ntmps136
  go_wp2_with fail
  go_loopw [7, 3, 4] (fun i _ _ wr => ∃ k : Nat, k ≤ l.length ∧ i = .int .i64 k ∧ (∀ j, j < k → stepOk l j = true) ∧ Below w.heap.size w wr) (fun i _ _ _ => l.length - (intOf i).toNat)
  case atStart => exact ⟨0, Nat.zero_le _, rfl, fun j hj => by omega, Below.refl _ _⟩
  case round =>
    obtain ⟨k, hk, rfl, hall, hbw⟩ := hrel
    by_cases hlt : k < l.length
    · obtain ⟨hok, hAb, b0, b1, b2, b3⟩ := (hA.up hbw hbw.size).hold hlt
      have hba : Below w.heap.size w (wr.alloc (.cells #[.int .i64 (hold l k).order, .int .i64 (hold l k).line, .int .i64 (hold l k).bin, .int .i64 (hold l k).n] 46)) := hbw.alloc hbw.size _
      have q0 := fun o d os => cells_wld (w := wr.alloc (.cells #[.int .i64 (hold l k).order, .int .i64 (hold l k).line, .int .i64 (hold l k).bin, .int .i64 (hold l k).n] 46)) (b := wr.heap.size) (by simp) o d os
      cases hf : holdFine (hold l k)
      · go_wp2_with fail
        refine wp_region_wld (by kernel_rfl) (by kernel_rfl) ?_
        repeat (go_big_quiet_step ((go_at_call 164; refine calls_wld (hdFine (hold l k) _))))
        refine wpQuiet_nil ?_
        intro W2 hw'
        have hb2 := below_of_cls hw'
        clear hw'
        go_wp2_with fail
        go_ret
        exact ⟨ret_int (holds_step hlt (step_no hf)).symm, hba.trans (hb2.mono hba.size)⟩
      · rcases k with _ | m
        · have hst := step_zero hf
          simp only [Nat.zero_mul, Nat.add_zero] at b0 b1 b2 b3
          go_wp2_with fail
          refine wp_region_wld (by kernel_rfl) (by kernel_rfl) ?_
          repeat (go_big_quiet_step ((go_at_call 164; refine calls_wld (hdFine (hold l 0) _))))
          refine wpQuiet_nil ?_
          intro W2 hw'
          have hb2 := below_of_cls hw'
          clear hw'
          go_wp2_with fail
          go_roundw
          case rel => exact ⟨1, by omega, by go_num, fun j hj => by (obtain rfl : j = 0 := by omega); exact hst, hba.trans (hb2.mono hba.size)⟩
          case measure => simp [intOf]; omega
        · obtain ⟨_, _, c0, c1, c2, c3⟩ := (hA.up hbw hbw.size).hold (show m < l.length by omega)
          have qA := fun o d os => cells_wld (w := wr.alloc (.cells #[.int .i64 (hold l (m + 1)).order, .int .i64 (hold l (m + 1)).line, .int .i64 (hold l (m + 1)).bin, .int .i64 (hold l (m + 1)).n] 46)) (b := ablk A) (by simp; omega) o d os
          have hst := step_ord hf (step_fine (hall m (by omega)))
          by_cases ho : ord (hold l m) (hold l (m + 1)) < 0
          · have hst' := Lib.hid (show stepOk l (m + 1) = true by rw [hst]; simpa using ho)
            clear hst
            go_wp2_with fail
            refine wp_region_wld (by kernel_rfl) (by kernel_rfl) ?_
            repeat (go_big_quiet_step ((first | (go_at_call 164; refine calls_wld (hdFine (hold l (m + 1)) _)) | (go_at_call 167; refine calls_wld (hdOrder (hold l m) (hold l (m + 1)) _)))))
            refine wpQuiet_nil ?_
            intro W2 hw'
            have hb2 := below_of_cls hw'
            clear hw'
            go_wp2_with fail
            go_roundw
            case rel =>
              refine ⟨m + 2, by omega, by go_num, fun j hj => ?_, hba.trans (hb2.mono hba.size)⟩
              rcases Nat.lt_succ_iff_lt_or_eq.1 hj with h | rfl
              · exact hall j h
              · exact hst'.out
            case measure => simp [intOf]; omega
          · have hst' := Lib.hid (show stepOk l (m + 1) = false by rw [hst]; simpa using ho)
            have ho' : 0 ≤ ord (hold l m) (hold l (m + 1)) := by omega
            clear hst ho
            go_wp2_with fail
            refine wp_region_wld (by kernel_rfl) (by kernel_rfl) ?_
            repeat (go_big_quiet_step ((first | (go_at_call 164; refine calls_wld (hdFine (hold l (m + 1)) _)) | (go_at_call 167; refine calls_wld (hdOrder (hold l m) (hold l (m + 1)) _)))))
            refine wpQuiet_nil ?_
            intro W2 hw'
            have hb2 := below_of_cls hw'
            clear hw'
            go_wp2_with fail
            go_ret
            exact ⟨ret_int (holds_step hlt hst'.out).symm, hba.trans (hb2.mono hba.size)⟩
    · obtain rfl : k = l.length := by omega
      have hfin := Lib.hid (holds_all hall)
      go_wp2_with fail
      go_ret
      exact ⟨ret_int hfin.out.symm, hbw⟩

set_option maxHeartbeats 1000000 in
theorem rCheckHolds (w : World) (v : Value) (l : List Hold) (hv : Sl cHold w w.heap.size v l) :
    Calls Tryz.prog 90 #[v] w fun e w' => e = .returned (.int .i64 (checkHolds l)) ∧ Below w.heap.size w w' := by
  obtain ⟨A, c, rfl, hl, hA⟩ := hv
  go_enter Tryz.func90, Tryz.ntmps90
  go_wp2_with fail
  go_loopw [3] (fun i wr => ∃ k : Nat, k ≤ l.length ∧ i = .int .i64 k ∧ (∀ j, j < k → stepOk l j = true) ∧ Below w.heap.size w wr) (fun i _ => l.length - (intOf i).toNat)
  case atStart => exact ⟨0, Nat.zero_le _, rfl, fun j hj => by omega, Below.refl _ _⟩
  case round =>
    obtain ⟨k, hk, rfl, hall, hbw⟩ := hrel
    by_cases hlt : k < l.length
    · obtain ⟨hok, hAb, b0, b1, b2, b3⟩ := (hA.up hbw hbw.size).hold hlt
      have qA := fun o d os => cells_wld (w := wr) (b := ablk A) hAb o d os
      cases hf : holdFine (hold l k)
      · go_wp2_with fail
        refine wp_region_wld (by kernel_rfl) (by kernel_rfl) ?_
        repeat (go_big_quiet_step ((go_at_call 151; refine calls_wld (rHoldFine (hold l k) _))))
        refine wpQuiet_nil ?_
        intro W2 hw'
        have hb2 := below_of_cls hw'
        clear hw'
        go_wp2_with fail
        go_ret
        exact ⟨ret_int (holds_step hlt (step_no hf)).symm, hbw.trans (hb2.mono hbw.size)⟩
      · rcases k with _ | m
        · have hst := step_zero hf
          simp only [Nat.zero_mul, Nat.add_zero] at b0 b1 b2 b3
          go_wp2_with fail
          refine wp_region_wld (by kernel_rfl) (by kernel_rfl) ?_
          repeat (go_big_quiet_step ((go_at_call 151; refine calls_wld (rHoldFine (hold l 0) _))))
          refine wpQuiet_nil ?_
          intro W2 hw'
          have hb2 := below_of_cls hw'
          clear hw'
          go_wp2_with fail
          go_roundw
          case rel => exact ⟨1, by omega, by go_num, fun j hj => by (obtain rfl : j = 0 := by omega); exact hst, hbw.trans (hb2.mono hbw.size)⟩
          case measure => simp [intOf]; omega
        · obtain ⟨_, _, c0, c1, c2, c3⟩ := (hA.up hbw hbw.size).hold (show m < l.length by omega)
          have hst := step_succ hf
          have hk0 := (fine_iff.1 (step_fine (hall m (by omega)))).1
          have hk1 := (fine_iff.1 hf).1
          have hK0 := Lib.hid hk0
          have hK1 := Lib.hid hk1
          clear hk0 hk1
          by_cases ho : place (hold l m) < place (hold l (m + 1))
          · have hst' := Lib.hid (show stepOk l (m + 1) = true by rw [hst]; simpa using ho)
            clear hst
            go_wp2_with fail
            refine wp_region_wld (by kernel_rfl) (by kernel_rfl) ?_
            repeat (go_big_quiet_step ((first | (go_at_call 151; refine calls_wld (rHoldFine (hold l (m + 1)) _)) | (go_at_call 125; refine calls_wld (rPlace _ _ (by first | exact hK0.out | exact hK1.out))))))
            refine wpQuiet_nil ?_
            intro W2 hw'
            have hb2 := below_of_cls hw'
            clear hw'
            go_wp2_with fail
            go_roundw
            case rel =>
              refine ⟨m + 2, by omega, by go_num, fun j hj => ?_, hbw.trans (hb2.mono hbw.size)⟩
              rcases Nat.lt_succ_iff_lt_or_eq.1 hj with h | rfl
              · exact hall j h
              · exact hst'.out
            case measure => simp [intOf]; omega
          · have hst' := Lib.hid (show stepOk l (m + 1) = false by rw [hst]; simpa using ho)
            have ho' : place (hold l (m + 1)) ≤ place (hold l m) := by omega
            clear hst ho
            go_wp2_with fail
            refine wp_region_wld (by kernel_rfl) (by kernel_rfl) ?_
            repeat (go_big_quiet_step ((first | (go_at_call 151; refine calls_wld (rHoldFine (hold l (m + 1)) _)) | (go_at_call 125; refine calls_wld (rPlace _ _ (by first | exact hK0.out | exact hK1.out))))))
            refine wpQuiet_nil ?_
            intro W2 hw'
            have hb2 := below_of_cls hw'
            clear hw'
            go_wp2_with fail
            go_ret
            exact ⟨ret_int (holds_step hlt hst'.out).symm, hbw.trans (hb2.mono hbw.size)⟩
    · obtain rfl : k = l.length := by omega
      have hfin := Lib.hid (holds_all hall)
      go_wp2_with fail
      go_ret
      exact ⟨ret_int hfin.out.symm, hbw⟩
end Wh
namespace Wh
open Go Go.RowKit Go.Shelf Go.Proofs
attribute [local go_sem] run_indexAt_letter

theorem keptAt_hit {l : List Hold} {o ln b : Int} {k : Nat} (hk : k < l.length) (h : sameKey o ln b (hold l k) = true) (hn : ∀ j, j < k → sameKey o ln b (hold l j) = false) : keptAt l o ln b = (hold l k).n := by
  unfold keptAt
  have : l.find? (sameKey o ln b) = some (hold l k) := by
    rw [List.find?_eq_some_iff_getElem]
    refine ⟨h, k, hk, (hold_get hk).symm, fun j hj => ?_⟩
    have := hn j hj
    rw [hold_get (by omega)] at this
    rw [this]; rfl
  rw [this]
theorem keptAt_miss {l : List Hold} {o ln b : Int} (hn : ∀ j, j < l.length → sameKey o ln b (hold l j) = false) : keptAt l o ln b = 0 := by
  refine keptAt_none fun x hx hk => ?_
  obtain ⟨i, hi, rfl⟩ := List.getElem_of_mem hx
  have h := hn i hi
  rw [hold_get hi, sameKey_iff.2 hk] at h
  cases h
theorem key_cases (o ln b : Int) (h : Hold) : ((h.order == o) = false ∧ sameKey o ln b h = false) ∨ ((h.order == o) = true ∧ (h.line == ln) = false ∧ sameKey o ln b h = false) ∨
    ((h.order == o) = true ∧ (h.line == ln) = true ∧ (h.bin == b) = false ∧ sameKey o ln b h = false) ∨ ((h.order == o) = true ∧ (h.line == ln) = true ∧ (h.bin == b) = true ∧ sameKey o ln b h = true) := by
  unfold sameKey
  by_cases h1 : h.order = o <;> by_cases h2 : h.line = ln <;> by_cases h3 : h.bin = b <;> simp [h1, h2, h3]

set_option maxHeartbeats 1000000 in
theorem rKeptAt (w : World) (v : Value) (l : List Hold) (o ln b : Int) (hv : Sl cHold w w.heap.size v l) :
    Calls Tryz.prog 108 #[v, .int .i64 o, .int .i64 ln, .int .i64 b] w fun e w' => e = .returned (.int .i64 (keptAt l o ln b)) ∧ w = w' := by
  obtain ⟨A, c, rfl, hl, hA⟩ := hv
  go_enter Tryz.func108, Tryz.ntmps108
  go_wp2_with fail
  go_loop [9] (fun i => ∃ k : Nat, k ≤ l.length ∧ i = .int .i64 k ∧ (∀ j, j < k → sameKey o ln b (hold l j) = false)) (fun i => l.length - (intOf i).toNat)
  case atStart => exact ⟨0, Nat.zero_le _, rfl, fun j hj => by omega⟩
  case round =>
    obtain ⟨k, hk, rfl, hall⟩ := hrel
    have hall' := Lib.hid hall
    clear hall
    by_cases hlt : k < l.length
    · obtain ⟨hok, hAb, b0, b1, b2, b3⟩ := hA.hold hlt
      rcases key_cases o ln b (hold l k) with ⟨g1, hs⟩ | ⟨g1, g2, hs⟩ | ⟨g1, g2, g3, hs⟩ | ⟨g1, g2, g3, hs⟩
      · have hs' := Lib.hid hs
        clear hs
        go_wp2_with fail
        go_round
        case rel =>
          refine ⟨k + 1, by omega, by go_num, fun j hj => ?_⟩
          rcases Nat.lt_succ_iff_lt_or_eq.1 hj with h | rfl
          · exact hall'.out j h
          · exact hs'.out
        case measure => simp [intOf]; omega
      · have hs' := Lib.hid hs
        clear hs
        go_wp2_with fail
        go_round
        case rel =>
          refine ⟨k + 1, by omega, by go_num, fun j hj => ?_⟩
          rcases Nat.lt_succ_iff_lt_or_eq.1 hj with h | rfl
          · exact hall'.out j h
          · exact hs'.out
        case measure => simp [intOf]; omega
      · have hs' := Lib.hid hs
        clear hs
        go_wp2_with fail
        go_round
        case rel =>
          refine ⟨k + 1, by omega, by go_num, fun j hj => ?_⟩
          rcases Nat.lt_succ_iff_lt_or_eq.1 hj with h | rfl
          · exact hall'.out j h
          · exact hs'.out
        case measure => simp [intOf]; omega
      · have hfin := Lib.hid (keptAt_hit hlt hs hall'.out)
        clear hs
        go_wp2_with fail
        go_ret
        exact ⟨ret_int hfin.out.symm, rfl⟩
    · obtain rfl : k = l.length := by omega
      have hfin := Lib.hid (keptAt_miss hall'.out)
      go_wp2_with fail
      go_ret
      exact ⟨ret_int hfin.out.symm, rfl⟩

set_option maxHeartbeats 1000000 in
theorem rKeptOf (w : World) (v : Value) (l : List Hold) (o ln : Int) (hv : Sl cHold w w.heap.size v l) (hok : holdsOk l = true) :
    Calls Tryz.prog 92 #[v, .int .i64 o, .int .i64 ln] w fun e w' => e = .returned (.int .i64 (kept l o ln)) ∧ w = w' := by
  have hV := hv
  obtain ⟨A, c, rfl, hl, hA⟩ := hv
  obtain ⟨g1, g2⟩ := holdsOk_iff.1 hok
  have hr := fun b => keptAt_range g1 g2 o ln b
  have hfin := Lib.hid (kept_bins hok o ln)
  have hr' := Lib.hid hr
  clear hok g1 g2 hr
  go_enter Tryz.func92, Tryz.ntmps92
  go_wp2_with fail
  go_loop [7, 8] (fun n i => ∃ k : Nat, k ≤ 6 ∧ i = .int .i64 k ∧ n = .int .i64 (sumTo (fun b => keptAt l o ln b) k)) (fun _ i => 6 - (intOf i).toNat)
  case atStart => exact ⟨0, by omega, rfl, rfl⟩
  case round =>
    obtain ⟨k, hk, rfl, rfl⟩ := hrel
    obtain ⟨u1, u2⟩ := sumTo_bounds (f := fun b => keptAt l o ln b) (n := k) (m := 200) (fun j _ => hr'.out j)
    have u3 : sumTo (fun b => keptAt l o ln b) k ≤ 1200 := by omega
    clear u2
    by_cases hlt : k < 6
    · obtain ⟨q1, q2⟩ := hr'.out k
      go_wp2_with fail
      refine (rKeptAt _ _ _ _ _ _ hV).mono ?_
      rintro e w' ⟨rfl, rfl⟩
      go_wp2_with fail
      go_round
      case rel => exact ⟨k + 1, by omega, by go_num, rfl⟩
      case measure => simp [intOf]; omega
    · obtain rfl : k = 6 := by omega
      go_wp2_with fail
      go_ret
      exact ⟨ret_int hfin.out.symm, rfl⟩

theorem line_cases (o ln : Int) (h : Hold) : ((h.order == o) = false ∧ sameLine o ln h = false) ∨ ((h.order == o) = true ∧ (h.line == ln) = false ∧ sameLine o ln h = false) ∨
    ((h.order == o) = true ∧ (h.line == ln) = true ∧ sameLine o ln h = true) := by
  unfold sameLine
  by_cases h1 : h.order = o <;> by_cases h2 : h.line = ln <;> simp [h1, h2]
def keptTo (l : List Hold) (o ln : Int) (k : Nat) : Int := kept (l.take k) o ln
theorem keptTo_yes {l : List Hold} {o ln : Int} {k : Nat} (hk : k < l.length) (h : sameLine o ln (hold l k) = true) : keptTo l o ln (k + 1) = keptTo l o ln k + (hold l k).n := by
  unfold keptTo kept
  rw [List.take_succ_eq_append_getElem hk, List.filter_append, ← hold_get hk, List.filter_cons, h]
  simp
theorem keptTo_no {l : List Hold} {o ln : Int} {k : Nat} (hk : k < l.length) (h : sameLine o ln (hold l k) = false) : keptTo l o ln (k + 1) = keptTo l o ln k := by
  unfold keptTo kept
  rw [List.take_succ_eq_append_getElem hk, List.filter_append, ← hold_get hk, List.filter_cons, h]
  simp
theorem ok_take {l : List Hold} (h : holdsOk l = true) (k : Nat) : holdsOk (l.take k) = true := by
  obtain ⟨g1, g2⟩ := holdsOk_iff.1 h
  exact holdsOk_iff.2 ⟨fun x hx => g1 x (List.mem_of_mem_take hx), g2.sublist (List.take_sublist k l)⟩
theorem check_ok {l : List Hold} : checkHolds l = 0 ↔ holdsOk l = true := by
  unfold checkHolds
  cases holdsOk l <;> simp

set_option maxHeartbeats 1000000 in
theorem hdKept (w : World) (v : Value) (l : List Hold) (o ln : Int) (hv : Sl cHold w w.heap.size v l) :
    Calls Tryz.prog 83 #[v, .int .i64 o, .int .i64 ln] w fun e w' => e = .returned (.tuple #[.int .i64 (keptE l o ln).1, .int .i64 (keptE l o ln).2]) ∧ Below w.heap.size w w' := by
  have hV := hv
  obtain ⟨A, c, rfl, hl, hA⟩ := hv
  go_enter Tryz.func83, Tryz.ntmps83
  go_wp2_with fail
  refine (hdCheck _ _ _ hV).mono ?_
  rintro e W1 ⟨rfl, hb1⟩
  cases hok : holdsOk l
  · have hc : checkHolds l = 1 := by unfold checkHolds; rw [hok]; rfl
    have hk : keptE l o ln = (0, 1) := by unfold keptE; rw [hok]; rfl
    have hk' := Lib.hid hk
    rw [hc]
    clear hc hk
    go_wp2_with fail
    go_ret2
    exact ⟨ret2 (by rw [hk'.out]; rfl) (by rw [hk'.out]; rfl), hb1⟩
  · have hc : checkHolds l = 0 := check_ok.2 hok
    have hk : keptE l o ln = (kept l o ln, 0) := by unfold keptE; rw [hok]; rfl
    have hrg := fun k => kept_range (ok_take hok k) o ln
    have hrg' := Lib.hid hrg
    have hk' := Lib.hid hk
    rw [hc]
    clear hc hk hok hrg
    go_wp2_with fail
    go_loopw [9, 19, 11] (fun n i _ wr => ∃ k : Nat, k ≤ l.length ∧ i = .int .i64 k ∧ n = .int .i64 (keptTo l o ln k) ∧ Below W1.heap.size W1 wr) (fun _ i _ _ => l.length - (intOf i).toNat)
    case atStart => exact ⟨0, Nat.zero_le _, rfl, rfl, Below.refl _ _⟩
    case round =>
      obtain ⟨k, hk, rfl, rfl, hbw⟩ := hrel
      obtain ⟨u1, u2⟩ := hrg'.out k
      change 0 ≤ keptTo l o ln k at u1
      change keptTo l o ln k ≤ 1200 at u2
      by_cases hlt : k < l.length
      · have hb01 := hb1.trans (hbw.mono hb1.size)
        obtain ⟨hok, hAb, b0, b1, b2, b3⟩ := (hA.up hb01 hb01.size).hold hlt
        obtain ⟨u3, u4⟩ := hrg'.out (k + 1)
        change 0 ≤ keptTo l o ln (k + 1) at u3
        change keptTo l o ln (k + 1) ≤ 1200 at u4
        rcases line_cases o ln (hold l k) with ⟨g1, hs⟩ | ⟨g1, g2, hs⟩ | ⟨g1, g2, hs⟩
        · have hs' := Lib.hid (keptTo_no hlt hs)
          clear hs
          go_wp2_with fail
          go_roundw
          case rel => exact ⟨k + 1, by omega, by go_num, by rw [hs'.out], hbw.alloc hbw.size _⟩
          case measure => simp [intOf]; omega
        · have hs' := Lib.hid (keptTo_no hlt hs)
          clear hs
          go_wp2_with fail
          go_roundw
          case rel => exact ⟨k + 1, by omega, by go_num, by rw [hs'.out], hbw.alloc hbw.size _⟩
          case measure => simp [intOf]; omega
        · have hs' := Lib.hid (keptTo_yes hlt hs)
          rw [hs'.out] at u3 u4
          clear hs
          go_wp2_with fail
          go_roundw
          case rel => exact ⟨k + 1, by omega, by go_num, by rw [hs'.out], hbw.alloc hbw.size _⟩
          case measure => simp [intOf]; omega
      · obtain rfl : k = l.length := by omega
        have hfin := Lib.hid (show keptTo l o ln l.length = kept l o ln by unfold keptTo; rw [List.take_length])
        go_wp2_with fail
        go_ret2
        exact ⟨ret2 (by rw [hk'.out, ← hfin.out]; rfl) (by rw [hk'.out]; rfl), hb1.trans (hbw.mono hb1.size)⟩

theorem struct_eq {P : Program} {t : TypeId} (hS : P.underlying t = some (.struct (P.fieldsOf t))) (hp : P.stoodInHeld t = false) (xs ys : Array Value) (b : Bool) (h : ∀ w, (Op.eqFields 9999 xs ys (P.fieldsOf t).toList).run P w = .ok b w) (w : World) :
    (binOp .neq t (.agg xs) (.agg ys)).run P w = .ok (.bool (!b)) w := by
  rw [run_neq_struct, show (10000 : Nat) = 9999 + 1 from rfl, run_equalIn_agg w 9999 t _ _ hS hp, h]
  rfl
theorem hold_eq {x y : Hold} : x = y ↔ x.order = y.order ∧ x.line = y.line ∧ x.bin = y.bin ∧ x.n = y.n := by
  cases x; cases y; simp
theorem neqHold (x y : Hold) (w : World) : (binOp .neq 46 (.agg #[.int .i64 (x).order, .int .i64 (x).line, .int .i64 (x).bin, .int .i64 (x).n]) (.agg #[.int .i64 (y).order, .int .i64 (y).line, .int .i64 (y).bin, .int .i64 (y).n])).run Tryz.prog w = .ok (.bool (!decide (x = y))) w := by
  refine struct_eq (by kernel_rfl) (by kernel_rfl) _ _ _ (fun w => ?_) w
  have u3 := Tryz.underlying3
  have a3 := Tryz.isAgg3
  have z3 := Tryz.sizeOf3
  simp only [Program.fieldsOf, Tryz.underlying46]
  go_simp
  by_cases h1 : x.order = y.order <;> by_cases h2 : x.line = y.line <;> by_cases h3 : x.bin = y.bin <;> by_cases h4 : x.n = y.n <;> simp [h1, h2, h3, h4, hold_eq]

set_option maxHeartbeats 1000000 in
theorem rSameHolds (w : World) (va vb : Value) (a b : List Hold) (ha : Sl cHold w w.heap.size va a) (hb : Sl cHold w w.heap.size vb b) :
    Calls Tryz.prog 25 #[va, vb] w fun e w' => e = .returned (.bool (decide (a = b))) ∧ Below w.heap.size w w' := by
  obtain ⟨A, c, rfl, hl, hA⟩ := ha
  obtain ⟨B, d, rfl, hl2, hB⟩ := hb
  have hq := neqHold
  have hg : Tryz.prog.eqGuardType Tryz.prog.depth 46 = false := by kernel_rfl
  go_enter Tryz.func25, Tryz.ntmps25
  by_cases hlen : a.length = b.length
  · have hnb : ((a.length : Int) != (b.length : Int)) = false := by rw [hlen]; simp
    have hle1 := Nat.le_of_eq hlen
    have hle2 := Nat.le_of_eq hlen.symm
    have hlen' := Lib.hid hlen
    clear hlen
    go_wp2_with fail
    go_loopw [5] (fun i wr => ∃ k : Nat, k ≤ a.length ∧ i = .int .i64 k ∧ (∀ j, j < k → hold a j = hold b j) ∧ Below w.heap.size w wr) (fun i _ => a.length - (intOf i).toNat)
    case atStart => exact ⟨0, Nat.zero_le _, rfl, fun j hj => by omega, Below.refl _ _⟩
    case round =>
      obtain ⟨k, hk, rfl, hall, hbw⟩ := hrel
      have hall' := Lib.hid hall
      clear hall
      by_cases hlt : k < a.length
      · have hlt2 : k < b.length := by omega
        obtain ⟨o1, o2, o3, o4, o5, o6⟩ := (hA.up hbw hbw.size).hold hlt
        obtain ⟨p1, p2, p3, p4, p5, p6⟩ := (hB.up hbw hbw.size).hold hlt2
        by_cases he : hold a k = hold b k
        · have heb : decide (hold a k = hold b k) = true := by rw [he]; simp
          have he' := Lib.hid he
          clear he
          go_wp2_with fail
          go_quiet (fail)
          go_wp2_with fail
          go_roundw
          case rel =>
            refine ⟨k + 1, by omega, by go_num, fun j hj => ?_, below_drewN hbw _⟩
            rcases Nat.lt_succ_iff_lt_or_eq.1 hj with h | rfl
            · exact hall'.out j h
            · exact he'.out
          case measure => simp [intOf]; omega
        · have heb : decide (hold a k = hold b k) = false := by simp [he]
          have hne := Lib.hid (show a ≠ b from fun e => he (by rw [e]))
          go_wp2_with fail
          go_quiet (fail)
          go_wp2_with fail
          go_ret
          exact ⟨ret_bool (by rw [decide_eq_false hne.out]), below_drewN hbw _⟩
      · obtain rfl : k = a.length := by omega
        have heq : a = b := List.ext_getElem hlen'.out fun i h1 h2 => by rw [← hold_get h1, ← hold_get h2]; exact hall'.out i h1
        have heq' := Lib.hid heq
        clear heq
        go_wp2_with fail
        go_ret
        exact ⟨ret_bool (by rw [decide_eq_true heq'.out]), hbw⟩
  · have hne := Lib.hid (show a ≠ b from fun e => hlen (by rw [e]))
    have hnb : ((a.length : Int) != (b.length : Int)) = true := by simp; omega
    go_wp2_with fail
    go_ret
    exact ⟨ret_bool (by rw [decide_eq_false hne.out]), Below.refl _ _⟩
end Wh
namespace Wh
open Go Go.RowKit Go.Shelf Go.Proofs
attribute [local go_sem] run_indexAt_letter

theorem SlSl.nil {w : World} {B : Nat} : SlSl cInt w B (.slice none 0 0) [] := ⟨none, 0, [], rfl, by simp, rfl, At.nil, fun i x h => by simp at h⟩
end Wh
namespace Wh
open Go Go.RowKit Go.Shelf Go.Proofs
attribute [local go_sem] run_indexAt_letter

set_option maxHeartbeats 1000000 in
theorem lYard (w : World) : Calls Tryz.prog 41 #[] w (Gives (fun u w' => PlanV w' w'.heap.size u yardP) w) := by
  go_enter Tryz.func41, Tryz.ntmps41
  go_wp2_with fail
  refine bodyPost_ret (v := .agg #[.slice (some ⟨w.heap.size + 1, 0, none⟩) 3 3, .slice (some ⟨w.heap.size + 1 + 1, 0, none⟩) 2 2]) (by simp [results, Tryz.results41, go_sem]) rfl ?_
  have b1 := Own.lit (base := 0) (enc := cBin) (size := 4) (w.alloc (.cells #[.slice (some ⟨w.heap.size + 1, 0, none⟩) 3 3, .slice (some ⟨w.heap.size + 1 + 1, 0, none⟩) 2 2] 25)) 125
    #[.bool false, .int .i64 100, .int .i64 0, .int .i64 0, .bool true, .int .i64 30, .int .i64 4, .int .i64 8, .bool false, .int .i64 60, .int .i64 0, .int .i64 0] yardP.bins (Nat.zero_le _) (by decide) (fun _ => rfl) rfl
  have b2 := b1.alloc (.cells #[.int .i64 2, .int .i64 3] 3)
  have b3 := Own.lit (base := 0) (enc := cInt) (size := 1) ((w.alloc (.cells #[.slice (some ⟨w.heap.size + 1, 0, none⟩) 3 3, .slice (some ⟨w.heap.size + 1 + 1, 0, none⟩) 2 2] 25)).alloc
    (.cells #[.bool false, .int .i64 100, .int .i64 0, .int .i64 0, .bool true, .int .i64 30, .int .i64 4, .int .i64 8, .bool false, .int .i64 60, .int .i64 0, .int .i64 0] 125)) 3 #[.int .i64 2, .int .i64 3] yardP.sizes (Nat.zero_le _) (by decide) (fun _ => rfl) rfl
  simp only [World.size_alloc] at b2 b3
  exact ⟨_, rfl, ⟨_, _, rfl, b2.sl (by decide), b3.sl (by decide)⟩, (((Below.refl _ _).alloc (Nat.le_refl _) _).alloc (by simp) _).alloc (by simp; omega) _⟩

set_option maxHeartbeats 1000000 in
theorem rSameInts (w : World) (va vb : Value) (a b : List Int) (ha : Sl cInt w w.heap.size va a) (hb : Sl cInt w w.heap.size vb b) :
    Calls Tryz.prog 59 #[va, vb] w fun e w' => e = .returned (.bool (decide (a = b))) ∧ Below w.heap.size w w' := by
  obtain ⟨A, c, rfl, hl, hA⟩ := ha
  obtain ⟨B, d, rfl, hl2, hB⟩ := hb
  go_enter Tryz.func59, Tryz.ntmps59
  by_cases hlen : a.length = b.length
  · have hnb : ((a.length : Int) != (b.length : Int)) = false := by rw [hlen]; simp
    have hle1 := Nat.le_of_eq hlen
    have hle2 := Nat.le_of_eq hlen.symm
    have hlen' := Lib.hid hlen
    clear hlen
    go_wp2_with fail
    go_loopw [5] (fun i wr => ∃ k : Nat, k ≤ a.length ∧ i = .int .i64 k ∧ (∀ j, j < k → intAt a j = intAt b j) ∧ Below w.heap.size w wr) (fun i _ => a.length - (intOf i).toNat)
    case atStart => exact ⟨0, Nat.zero_le _, rfl, fun j hj => by omega, Below.refl _ _⟩
    case round =>
      obtain ⟨k, hk, rfl, hall, hbw⟩ := hrel
      have hall' := Lib.hid hall
      clear hall
      by_cases hlt : k < a.length
      · have hlt2 : k < b.length := by omega
        obtain ⟨o1, o2, o3⟩ := (hA.up hbw hbw.size).int hlt
        obtain ⟨p1, p2, p3⟩ := (hB.up hbw hbw.size).int hlt2
        by_cases he : intAt a k = intAt b k
        · have heb : (intAt a k != intAt b k) = false := by rw [he]; simp
          have he' := Lib.hid he
          clear he
          go_wp2_with fail
          go_quiet (fail)
          go_wp2_with fail
          go_roundw
          case rel =>
            refine ⟨k + 1, by omega, by go_num, fun j hj => ?_, below_drewN hbw _⟩
            rcases Nat.lt_succ_iff_lt_or_eq.1 hj with h | rfl
            · exact hall'.out j h
            · exact he'.out
          case measure => simp [intOf]; omega
        · have heb : (intAt a k != intAt b k) = true := by simp [he]
          have hne := Lib.hid (show a ≠ b from fun e => he (by rw [e]))
          go_wp2_with fail
          go_quiet (fail)
          go_wp2_with fail
          go_ret
          exact ⟨ret_bool (by rw [decide_eq_false hne.out]), below_drewN hbw _⟩
      · obtain rfl : k = a.length := by omega
        have heq : a = b := List.ext_getElem hlen'.out fun i h1 h2 => by rw [← intAt_eq h1, ← intAt_eq h2]; exact hall'.out i h1
        have heq' := Lib.hid heq
        clear heq
        go_wp2_with fail
        go_ret
        exact ⟨ret_bool (by rw [decide_eq_true heq'.out]), hbw⟩
  · have hne := Lib.hid (show a ≠ b from fun e => hlen (by rw [e]))
    have hnb : ((a.length : Int) != (b.length : Int)) = true := by simp; omega
    go_wp2_with fail
    go_ret
    exact ⟨ret_bool (by rw [decide_eq_false hne.out]), Below.refl _ _⟩

set_option maxHeartbeats 1000000 in
theorem rSameRows (w : World) (va vb : Value) (a b : List (List Int)) (ha : SlSl cInt w w.heap.size va a) (hb : SlSl cInt w w.heap.size vb b) :
    Calls Tryz.prog 58 #[va, vb] w fun e w' => e = .returned (.bool (decide (a = b))) ∧ Below w.heap.size w w' := by
  have hA := ha
  have hB := hb
  obtain ⟨A, c, vs, rfl, hl, hvl, hAt, hrows⟩ := ha
  obtain ⟨B, d, us, rfl, hl2, hul, hBt, hrows2⟩ := hb
  go_enter Tryz.func58, Tryz.ntmps58
  by_cases hlen : a.length = b.length
  · have hnb : ((a.length : Int) != (b.length : Int)) = false := by rw [hlen]; simp
    have hle1 := Nat.le_of_eq hlen
    have hle2 := Nat.le_of_eq hlen.symm
    have hlen' := Lib.hid hlen
    clear hlen
    go_wp2_with fail
    go_loopw [5] (fun i wr => ∃ k : Nat, k ≤ a.length ∧ i = .int .i64 k ∧ (∀ j, j < k → rowAt a j = rowAt b j) ∧ Below w.heap.size w wr) (fun i _ => a.length - (intOf i).toNat)
    case atStart => exact ⟨0, Nat.zero_le _, rfl, fun j hj => by omega, Below.refl _ _⟩
    case round =>
      obtain ⟨k, hk, rfl, hall, hbw⟩ := hrel
      have hall' := Lib.hid hall
      clear hall
      by_cases hlt : k < a.length
      · have hlt2 : k < b.length := by omega
        obtain ⟨A1, c1, o1, o2, o3, hs1⟩ := (hA.up hbw hbw.size).row hlt
        obtain ⟨B1, d1, p1, p2, p3, hs2⟩ := (hB.up hbw hbw.size).row hlt2
        go_wp2_with fail
        obtain ⟨r, hr⟩ : ∃ r, decide (rowAt a k = rowAt b k) = r := ⟨_, rfl⟩
        have hc := fun (W : World) (h1 : Sl cInt W W.heap.size (.slice A1 (rowAt a k).length c1) (rowAt a k)) (h2 : Sl cInt W W.heap.size (.slice B1 (rowAt b k).length d1) (rowAt b k)) => rSameInts W _ _ _ _ h1 h2
        simp only [hr] at hc
        have hr' := Lib.hid hr
        have hc' := Lib.hid hc
        clear hr hc
        cases r
        · have hne := Lib.hid (show a ≠ b from fun e => by have := hr'.out; rw [e] at this; simp at this)
          go_region_with (go_at_call 59; refine (hc'.out _ hs1.drew hs2.drew).mono ?_; rintro e W1 ⟨rfl, hb1⟩)
          all_goals
            have hbw1 := hbw.drew.trans (hb1.mono hbw.size)
            go_wp2_with fail
            go_ret
            exact ⟨ret_bool (by rw [decide_eq_false hne.out]), hbw1⟩
        · have he' := Lib.hid (of_decide_eq_true hr'.out)
          go_region_with (go_at_call 59; refine (hc'.out _ hs1.drew hs2.drew).mono ?_; rintro e W1 ⟨rfl, hb1⟩)
          all_goals
            have hbw1 := hbw.drew.trans (hb1.mono hbw.size)
            go_wp2_with fail
            go_roundw
            case rel =>
              refine ⟨k + 1, by omega, by go_num, fun j hj => ?_, hbw1⟩
              rcases Nat.lt_succ_iff_lt_or_eq.1 hj with h | rfl
              · exact hall'.out j h
              · exact he'.out
            case measure => simp [intOf]; omega
      · obtain rfl : k = a.length := by omega
        have heq : a = b := List.ext_getElem hlen'.out fun i h1 h2 => by rw [← rowAt_eq h1, ← rowAt_eq h2]; exact hall'.out i h1
        have heq' := Lib.hid heq
        clear heq
        go_wp2_with fail
        go_ret
        exact ⟨ret_bool (by rw [decide_eq_true heq'.out]), hbw⟩
  · have hne := Lib.hid (show a ≠ b from fun e => hlen (by rw [e]))
    have hnb : ((a.length : Int) != (b.length : Int)) = true := by simp; omega
    go_wp2_with fail
    go_ret
    exact ⟨ret_bool (by rw [decide_eq_false hne.out]), Below.refl _ _⟩
end Wh
