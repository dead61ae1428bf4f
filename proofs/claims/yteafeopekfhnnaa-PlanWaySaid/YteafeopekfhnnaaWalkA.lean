/- plans: walks -/
import Derived.Test.YteafeopekfhnnaaChecked
import Derived.Test.YteafeopekfhnnaaMem
import Derived.Test.YteafeopekfhnnaaPlainA
namespace Wh
open Go Go.RowKit Go.Shelf Go.Proofs
attribute [local go_sem] run_indexAt_letter

set_option maxHeartbeats 400000 in
theorem rWithin (n lo hi : Int) (w : World) :
    Calls Try.prog 40 #[.int .i64 n, .int .i64 lo, .int .i64 hi] w fun e w' => e = .returned (.bool (within n lo hi)) ∧ w = w' := by
  go_enter Try.func40, Try.ntmps40
  by_cases h1 : lo ≤ n
  · by_cases h2 : n ≤ hi
    · go_wp2
      go_ret
      exact ⟨by simp [within, h1, h2], rfl⟩
    · go_wp2
      go_ret
      exact ⟨by simp [within]; omega, rfl⟩
  · go_wp2
    go_ret
    exact ⟨by simp [within]; omega, rfl⟩

set_option maxHeartbeats 1000000 in
theorem rCheckPlan (w : World) (v : Value) (p : Plan) (hp : PlanV w w.heap.size v p) :
    Calls Try.prog 13 #[v] w fun e w' => e = .returned (.int .i64 (checkPlan p)) ∧ Below w.heap.size w w' := by
  obtain ⟨_, _, rfl, ⟨Ab, cb, rfl, hlb, hb⟩, ⟨As, cs, rfl, hls, hs⟩⟩ := hp
  have hb0 : Below w.heap.size w (w.alloc (.cells #[.slice Ab p.bins.length cb, .slice As p.sizes.length cs] 25)) := (Below.refl _ _).alloc (Nat.le_refl _) _
  go_enter Try.func13, Try.ntmps13
  cases h1 : within p.bins.length 1 6
  · go_wp2_with (go_at_call 40; refine (rWithin _ _ _ _).mono ?_; rintro e w' ⟨rfl, rfl⟩)
    go_ret
    exact ⟨ret_int (checkPlan_two (.inl h1)).symm, hb0⟩
  cases h2 : within p.sizes.length 1 3
  · go_wp2_with (go_at_call 40; refine (rWithin _ _ _ _).mono ?_; rintro e w' ⟨rfl, rfl⟩)
    go_ret
    exact ⟨ret_int (checkPlan_two (.inr h2)).symm, hb0⟩
  go_wp2_with (go_at_call 40; refine (rWithin _ _ _ _).mono ?_; rintro e w' ⟨rfl, rfl⟩)
  go_loopw [3] (fun i wr => ∃ k : Nat, k ≤ p.bins.length ∧ i = .int .i64 k ∧ (∀ j, j < k → binOk (binAt p.bins j) = true) ∧ Below w.heap.size w wr ∧ w.heap.size < wr.heap.size ∧ wr.cell? ⟨w.heap.size, 0, none⟩ = some (.slice Ab p.bins.length cb) ∧ wr.cell? ⟨w.heap.size, 1, none⟩ = some (.slice As p.sizes.length cs)) (fun i _ => p.bins.length - (intOf i).toNat)
  case atStart => exact ⟨0, Nat.zero_le _, rfl, fun j hj => by omega, hb0, by simp, by simp, by simp⟩
  case round =>
    obtain ⟨k, hk, rfl, hall, hbw, hsz, hc0, hc1⟩ := hrel
    by_cases hlt : k < p.bins.length
    · obtain ⟨hA, hAb, b0, b1, b2, b3⟩ := (hb.up hbw hbw.size).bin hlt
      rcases binOk_parts (binAt p.bins k) with ⟨g1, hno⟩ | ⟨g1, g2, hno⟩ | ⟨g1, g2, g3, hno⟩ | ⟨g1, g2, g3, hyes⟩
      · go_wp2_with (go_at_call 40; refine (rWithin _ _ _ _).mono ?_; rintro e w' ⟨rfl, rfl⟩)
        go_ret
        exact ⟨ret_int (checkPlan_bin h1 h2 hlt hno).symm, hbw.alloc hbw.size _⟩
      · go_wp2_with (go_at_call 40; refine (rWithin _ _ _ _).mono ?_; rintro e w' ⟨rfl, rfl⟩)
        go_ret
        exact ⟨ret_int (checkPlan_bin h1 h2 hlt hno).symm, hbw.alloc hbw.size _⟩
      · go_wp2_with (go_at_call 40; refine (rWithin _ _ _ _).mono ?_; rintro e w' ⟨rfl, rfl⟩)
        go_ret
        exact ⟨ret_int (checkPlan_bin h1 h2 hlt hno).symm, hbw.alloc hbw.size _⟩
      · go_wp2_with (go_at_call 40; refine (rWithin _ _ _ _).mono ?_; rintro e w' ⟨rfl, rfl⟩)
        go_roundw
        case rel =>
          refine ⟨k + 1, by omega, by go_num, fun j hj => ?_, hbw.alloc hbw.size _, by simp; omega, ?_, ?_⟩
          · rcases Nat.lt_succ_iff_lt_or_eq.1 hj with h | rfl
            · exact hall j h
            · exact hyes
          · rw [World.cell?_alloc_lt _ _ _ hsz]; exact hc0
          · rw [World.cell?_alloc_lt _ _ _ hsz]; exact hc1
        case measure => simp [intOf]; omega
    · obtain rfl : k = p.bins.length := by omega
      have hsn := hs.up hbw hbw.size
      go_wp2_with (go_at_call 40; refine (rWithin _ _ _ _).mono ?_; rintro e w' ⟨rfl, rfl⟩)
      go_loop [5] (fun i => ∃ k : Nat, k ≤ p.sizes.length ∧ i = .int .i64 k ∧ (∀ j, j < k → sizeOk (intAt p.sizes j) = true)) (fun i => p.sizes.length - (intOf i).toNat)
      case atStart => exact ⟨0, Nat.zero_le _, rfl, fun j hj => by omega⟩
      case round =>
        obtain ⟨k, hk, rfl, hall2⟩ := hrel
        by_cases hlt : k < p.sizes.length
        · obtain ⟨hA, hAb, b0⟩ := hsn.int hlt
          cases g1 : within (intAt p.sizes k) 1 9
          · go_wp2_with (go_at_call 40; refine (rWithin _ _ _ _).mono ?_; rintro e w' ⟨rfl, rfl⟩)
            go_ret
            exact ⟨ret_int (checkPlan_size h1 h2 hlt g1).symm, hbw⟩
          · go_wp2_with (go_at_call 40; refine (rWithin _ _ _ _).mono ?_; rintro e w' ⟨rfl, rfl⟩)
            go_round
            case rel =>
              refine ⟨k + 1, by omega, by go_num, fun j hj => ?_⟩
              rcases Nat.lt_succ_iff_lt_or_eq.1 hj with h | rfl
              · exact hall2 j h
              · exact g1
            case measure => simp [intOf]; omega
        · obtain rfl : k = p.sizes.length := by omega
          go_wp2_with (go_at_call 40; refine (rWithin _ _ _ _).mono ?_; rintro e w' ⟨rfl, rfl⟩)
          go_ret
          exact ⟨ret_int (checkPlan_ok h1 h2 hall hall2).symm, hbw⟩

end Wh
