/- holds.order, fine, R.place, holdFine: walks -/
import Derived.Test.YteafeopekfhnnaaWalkC
import Derived.Test.YteafeopekfhnnaaReg
import Derived.Test.YteafeopekfhnnaaPlainD
import Derived.Deep.RegionHeld3
namespace Wh
open Go Go.RowKit Go.Shelf Go.Proofs
attribute [local go_sem] run_indexAt_letter

set_option maxHeartbeats 400000 in
theorem cmpNaN (n : Int) (w : World) : Calls Try.prog 74 #[.int .i64 n] w fun e w' => e = .returned (.bool false) ∧ w = w' := by
  go_enter Try.func74, Try.ntmps74
  go_wp2
  go_ret
  exact ⟨by simp, rfl⟩
set_option maxHeartbeats 400000 in
theorem cmpCompare (a b : Int) (w : World) : Calls Try.prog 71 #[.int .i64 a, .int .i64 b] w fun e w' => e = .returned (.int .i64 (cmp3 a b)) ∧ w = w' := by
  rcases cmp3_cases a b with ⟨h1, h2⟩ | ⟨h1, h2⟩ | ⟨h1, h2⟩
  · go_enter Try.func71, Try.ntmps71
    go_wp2_with (go_at_call 74; refine (cmpNaN _ _).mono ?_; rintro e w' ⟨rfl, rfl⟩)
    go_ret
    exact ⟨ret_int h2.symm, rfl⟩
  · go_enter Try.func71, Try.ntmps71
    go_wp2_with (go_at_call 74; refine (cmpNaN _ _).mono ?_; rintro e w' ⟨rfl, rfl⟩)
    go_ret
    exact ⟨ret_int h2.symm, rfl⟩
  · subst h1
    go_enter Try.func71, Try.ntmps71
    go_wp2_with (go_at_call 74; refine (cmpNaN _ _).mono ?_; rintro e w' ⟨rfl, rfl⟩)
    go_ret
    exact ⟨ret_int h2.symm, rfl⟩

def or3 (a b c : Int) : Int := if a ≠ 0 then a else if b ≠ 0 then b else c
set_option maxHeartbeats 1000000 in
theorem cmpOr (a b c : Int) (w : World) (bl off k : Nat) (h0 : w.cell? ⟨bl, off, none⟩ = some (.int .i64 a)) (h1 : w.cell? ⟨bl, off + 1, none⟩ = some (.int .i64 b)) (h2 : w.cell? ⟨bl, off + 2, none⟩ = some (.int .i64 c)) :
    Calls Try.prog 70 #[.slice (some ⟨bl, off, none⟩) 3 k] w fun e w' => e = .returned (.int .i64 (or3 a b c)) ∧ w = w' := by
  by_cases ha : a = 0
  · subst ha
    by_cases hb : b = 0
    · subst hb
      have hfin : or3 0 0 c = c := by simp [or3]
      by_cases hc : c = 0
      · subst hc
        go_enter Try.func70, Try.ntmps70
        go_wp2_with fail
        refine wp_loop_rounds 4 ?_
        rw [rounds_succ]
        go_wp2_with fail
        rw [rounds_succ]
        go_wp2_with fail
        rw [rounds_succ]
        go_wp2_with fail
        rw [rounds_succ]
        go_wp2_with fail
        go_ret
        exact ⟨ret_int hfin.symm, rfl⟩
      · have hc' : (c != 0) = true := by simpa using hc
        go_enter Try.func70, Try.ntmps70
        go_wp2_with fail
        refine wp_loop_rounds 4 ?_
        rw [rounds_succ]
        go_wp2_with fail
        rw [rounds_succ]
        go_wp2_with fail
        rw [rounds_succ]
        go_wp2_with fail
        go_ret
        exact ⟨ret_int hfin.symm, rfl⟩
    · have hfin : or3 0 b c = b := by simp [or3, hb]
      have hb' : (b != 0) = true := by simpa using hb
      go_enter Try.func70, Try.ntmps70
      go_wp2_with fail
      refine wp_loop_rounds 4 ?_
      rw [rounds_succ]
      go_wp2_with fail
      rw [rounds_succ]
      go_wp2_with fail
      go_ret
      exact ⟨ret_int hfin.symm, rfl⟩
  · have hfin : or3 a b c = a := by simp [or3, ha]
    have ha' : (a != 0) = true := by simpa using ha
    go_enter Try.func70, Try.ntmps70
    go_wp2_with fail
    refine wp_loop_rounds 4 ?_
    rw [rounds_succ]
    go_wp2_with fail
    go_ret
    exact ⟨ret_int hfin.symm, rfl⟩

set_option maxHeartbeats 400000 in
theorem hdOrder (a b : Hold) (w : World) : Calls Try.prog 62 #[vHold a, vHold b] w fun e w' => e = .returned (.int .i64 (ord a b)) ∧ Below w.heap.size w w' := by
  unfold vHold
  go_enter Try.func62, Try.ntmps62
  go_wp2_with fail
  go_region_held3 (fun w' => w'.cell? ⟨w.heap.size, 0, none⟩ = some (.int .i64 a.order) ∧ w'.cell? ⟨w.heap.size, 1, none⟩ = some (.int .i64 a.line) ∧ w'.cell? ⟨w.heap.size, 2, none⟩ = some (.int .i64 a.bin) ∧
    w'.cell? ⟨w.heap.size + 1, 0, none⟩ = some (.int .i64 b.order) ∧ w'.cell? ⟨w.heap.size + 1, 1, none⟩ = some (.int .i64 b.line) ∧ w'.cell? ⟨w.heap.size + 1, 2, none⟩ = some (.int .i64 b.bin)) (first | go_keep)
    (first
    | (go_at_call 71; refine (cmpCompare _ _ _).mono ?_; rintro e w' ⟨rfl, rfl⟩)
    | (go_at_call 70; refine (cmpOr (cmp3 a.order b.order) (cmp3 a.line b.line) (cmp3 a.bin b.bin) _ _ _ _ (by go_simp) (by go_simp) (by go_simp)).mono ?_; rintro e w' ⟨rfl, rfl⟩))
  go_wp2_with fail
  go_ret
  exact ⟨rfl, ((((Below.refl _ _).alloc (Nat.le_refl _) _).alloc (by simp) _).alloc (by simp; omega) _).drew⟩

set_option maxHeartbeats 1000000 in
theorem rPlace (h : Hold) (w : World) (hk : keyOk h.order h.line h.bin) : Calls Try.prog 60 #[vHold h] w fun e w' => e = .returned (.int .i64 (place h)) ∧ Below w.heap.size w w' := by
  obtain ⟨⟨a1, a2⟩, ⟨b1, b2⟩, ⟨c1, c2⟩⟩ := hk
  unfold vHold
  go_enter Try.func60, Try.ntmps60
  go_wp2
  go_ret
  exact ⟨rfl, (Below.refl _ _).alloc (Nat.le_refl _) _⟩

theorem fine_parts (h : Hold) : (within h.order 0 3 = false ∧ holdFine h = false) ∨ (within h.order 0 3 = true ∧ within h.line 0 2 = false ∧ holdFine h = false) ∨
    (within h.order 0 3 = true ∧ within h.line 0 2 = true ∧ within h.bin 0 5 = false ∧ holdFine h = false) ∨ (within h.order 0 3 = true ∧ within h.line 0 2 = true ∧ within h.bin 0 5 = true ∧ holdFine h = within h.n 1 200) := by
  unfold holdFine
  cases within h.order 0 3 <;> cases within h.line 0 2 <;> cases within h.bin 0 5 <;> simp

set_option maxHeartbeats 1000000 in
theorem rHoldFine (h : Hold) (w : World) : Calls Try.prog 59 #[vHold h] w fun e w' => e = .returned (.bool (holdFine h)) ∧ Below w.heap.size w w' := by
  unfold vHold
  rcases fine_parts h with ⟨g1, hf⟩ | ⟨g1, g2, hf⟩ | ⟨g1, g2, g3, hf⟩ | ⟨g1, g2, g3, hf⟩
  all_goals
    go_enter Try.func59, Try.ntmps59
    go_wp2_with (go_at_call 40; refine (rWithin _ _ _ _).mono ?_; rintro e w' ⟨rfl, rfl⟩)
    go_ret
    exact ⟨ret_bool hf.symm, (Below.refl _ _).alloc (Nat.le_refl _) _⟩
end Wh
