/- plan.Check: walks -/
import Derived.Test.YteafeopekfhnnaaWalkC
namespace Wh
open Go Go.RowKit Go.Shelf Go.Proofs
attribute [local go_sem] run_indexAt_letter

set_option maxHeartbeats 400000 in
theorem pWithin (n lo hi : Int) (w : World) :
    Calls Try.prog 42 #[.int .i64 n, .int .i64 lo, .int .i64 hi] w fun e w' => e = .returned (.bool (within n lo hi)) ∧ w = w' := by
  go_enter Try.func42, Try.ntmps42
  by_cases h1 : lo ≤ n
  · by_cases h2 : n ≤ hi
    · go_wp2
      go_ret
      exact ⟨by simp [within, h1, h2], rfl⟩
    · go_wp2
      go_ret
      exact ⟨by simp [within]; omega, rfl⟩
  · go_wp2
    go_ret
    exact ⟨by simp [within]; omega, rfl⟩

set_option maxHeartbeats 400000 in
theorem planBad (b : Bin) (W : World) :
    Calls Try.prog 44 #[vBin b] W fun e W' => e = .returned (.bool (!binOk b)) ∧ Below W.heap.size W W' := by
  unfold vBin
  go_enter Try.func44, Try.ntmps44
  rcases binOk_bad b with ⟨h1, h⟩ | ⟨h1, h2, h⟩ | ⟨h1, h2, h3, h⟩ | ⟨h1, h2, h3, h⟩
  · go_wp2_with (go_at_call 42; refine (pWithin _ _ _ _).mono ?_; rintro e w' ⟨rfl, rfl⟩)
    go_ret
    exact ⟨ret_bool (by rw [h]; rfl), (Below.refl _ _).alloc (Nat.le_refl _) _⟩
  · go_wp2_with (go_at_call 42; refine (pWithin _ _ _ _).mono ?_; rintro e w' ⟨rfl, rfl⟩)
    go_ret
    exact ⟨ret_bool (by rw [h]; rfl), (Below.refl _ _).alloc (Nat.le_refl _) _⟩
  · go_wp2_with (go_at_call 42; refine (pWithin _ _ _ _).mono ?_; rintro e w' ⟨rfl, rfl⟩)
    go_ret
    exact ⟨ret_bool (by rw [h]; rfl), (Below.refl _ _).alloc (Nat.le_refl _) _⟩
  · go_wp2_with (go_at_call 42; refine (pWithin _ _ _ _).mono ?_; rintro e w' ⟨rfl, rfl⟩)
    go_ret
    exact ⟨ret_bool (by rw [h]; simp; omega), (Below.refl _ _).alloc (Nat.le_refl _) _⟩

theorem entersBad : Enters Try.prog 44 := enters_of Try.func44 (by kernel_rfl) rfl

set_option maxHeartbeats 1000000 in
theorem planCheck (w : World) (v : Value) (p : Plan) (hp : PlanV w w.heap.size v p) :
    Calls Try.prog 16 #[v] w fun e w' => e = .returned (.int .i64 (checkPlan p)) ∧ Below w.heap.size w w' := by
  obtain ⟨_, _, rfl, ⟨Ab, cb, rfl, hlb, hb⟩, ⟨As, cs, rfl, hls, hs⟩⟩ := hp
  have hb0 : Below w.heap.size w (w.alloc (.cells #[.slice Ab p.bins.length cb, .slice As p.sizes.length cs] 25)) := (Below.refl _ _).alloc (Nat.le_refl _) _
  go_enter Try.func16, Try.ntmps16
  cases h1 : within p.bins.length 1 6
  · go_wp2_with (go_at_call 42; refine (pWithin _ _ _ _).mono ?_; rintro e w' ⟨rfl, rfl⟩)
    go_ret
    exact ⟨ret_int (checkPlan_two (.inl h1)).symm, hb0⟩
  cases h2 : within p.sizes.length 1 3
  · go_wp2_with (go_at_call 42; refine (pWithin _ _ _ _).mono ?_; rintro e w' ⟨rfl, rfl⟩)
    go_ret
    exact ⟨ret_int (checkPlan_two (.inr h2)).symm, hb0⟩
  have hpos : 0 < p.sizes.length := by have := within_iff.1 h2; omega
  have hsb : ∀ W, Below w.heap.size w W → Sl cBin W W.heap.size (.slice Ab p.bins.length cb) p.bins := fun W hW => Sl.up ⟨Ab, cb, rfl, hlb, hb⟩ hW hW.size
  have hss : ∀ W, Below w.heap.size w W → Sl cInt W W.heap.size (.slice As p.sizes.length cs) p.sizes := fun W hW => Sl.up ⟨As, cs, rfl, hls, hs⟩ hW hW.size
  go_wp2_with (go_at_call 42; refine (pWithin _ _ _ _).mono ?_; rintro e w' ⟨rfl, rfl⟩)
  refine (containsFuncBin _ _ p.bins 44 #[] (fun b => !binOk b) entersBad (hsb _ hb0) (fun k _ W _ => planBad _ W)).mono ?_
  rintro e W1 ⟨rfl, hb1⟩
  have hbw := hb0.trans (hb1.mono (by simp))
  have hsz := hb1.size
  obtain ⟨hc1, hf1⟩ := bcell hb1
  cases hbad : (p.bins.any fun b => !binOk b)
  · go_wp2_with fail
    refine (slMin _ _ p.sizes (hss _ hbw) hpos).mono ?_
    rintro e w' ⟨rfl, rfl⟩
    by_cases hlo : lowest p.sizes < 1
    · go_wp2_with fail
      go_ret
      exact ⟨ret_int (checkPlan_lowest h1 h2 hlo).symm, hbw⟩
    · go_wp2_with fail
      refine (slMax _ _ p.sizes (hss _ hbw) hpos).mono ?_
      rintro e w' ⟨rfl, rfl⟩
      by_cases hgr : 9 < greatest p.sizes
      · go_wp2_with fail
        go_ret
        exact ⟨ret_int (checkPlan_greatest h1 h2 hgr).symm, hbw⟩
      · go_wp2_with fail
        go_ret
        exact ⟨ret_int (checkPlan_good h1 h2 hbad (by omega) (by omega)).symm, hbw⟩
  · go_wp2_with fail
    go_ret
    exact ⟨ret_int (checkPlan_bad h1 h2 hbad).symm, hbw⟩
end Wh
