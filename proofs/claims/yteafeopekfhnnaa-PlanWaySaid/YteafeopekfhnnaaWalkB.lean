/- slices.Min, slices.Max: walks -/
import Derived.Test.YteafeopekfhnnaaChecked
import Derived.Test.YteafeopekfhnnaaMem
import Derived.Test.YteafeopekfhnnaaPlainA
namespace Wh
open Go Go.RowKit Go.Shelf Go.Proofs
attribute [local go_sem] run_indexAt_letter

set_option maxHeartbeats 1000000 in
theorem slMin (w : World) (v : Value) (l : List Int) (hv : Sl cInt w w.heap.size v l) (hn : 0 < l.length) :
    Calls Try.prog 45 #[v] w fun e w' => e = .returned (.int .i64 (lowest l)) ∧ w = w' := by
  obtain ⟨A, c, rfl, hl, hA⟩ := hv
  obtain ⟨hok, hAb, b0⟩ := hA.int hn
  have hn' : 1 ≤ l.length := hn
  simp only [Nat.add_zero] at b0
  go_enter Try.func45, Try.ntmps45
  go_wp2_with fail
  go_loop [3, 4] (fun m i => ∃ k : Nat, k + 1 ≤ l.length ∧ i = .int .i64 (k + 1 : Nat) ∧ m = .int .i64 (minTo (intAt l) k)) (fun _ i => l.length - (intOf i).toNat)
  case atStart => exact ⟨0, hn', rfl, rfl⟩
  case round =>
    obtain ⟨k, hk, rfl, rfl⟩ := hrel
    by_cases hlt : k + 1 < l.length
    · obtain ⟨_, _, b1⟩ := hA.int hlt
      go_wp2_with fail
      go_round
      case rel => exact ⟨k + 1, by omega, by go_num, by rw [minTo]; congr 1; split <;> omega⟩
      case measure => simp [intOf]; omega
    · obtain rfl : k = l.length - 1 := by omega
      go_wp2_with fail
      go_ret
      exact ⟨rfl, rfl⟩
set_option maxHeartbeats 1000000 in
theorem slMax (w : World) (v : Value) (l : List Int) (hv : Sl cInt w w.heap.size v l) (hn : 0 < l.length) :
    Calls Try.prog 46 #[v] w fun e w' => e = .returned (.int .i64 (greatest l)) ∧ w = w' := by
  obtain ⟨A, c, rfl, hl, hA⟩ := hv
  obtain ⟨hok, hAb, b0⟩ := hA.int hn
  have hn' : 1 ≤ l.length := hn
  simp only [Nat.add_zero] at b0
  go_enter Try.func46, Try.ntmps46
  go_wp2_with fail
  go_loop [3, 4] (fun m i => ∃ k : Nat, k + 1 ≤ l.length ∧ i = .int .i64 (k + 1 : Nat) ∧ m = .int .i64 (maxTo (intAt l) k)) (fun _ i => l.length - (intOf i).toNat)
  case atStart => exact ⟨0, hn', rfl, rfl⟩
  case round =>
    obtain ⟨k, hk, rfl, rfl⟩ := hrel
    by_cases hlt : k + 1 < l.length
    · obtain ⟨_, _, b1⟩ := hA.int hlt
      go_wp2_with fail
      go_round
      case rel => exact ⟨k + 1, by omega, by go_num, by rw [maxTo]; congr 1; split <;> omega⟩
      case measure => simp [intOf]; omega
    · obtain rfl : k = l.length - 1 := by omega
      go_wp2_with fail
      go_ret
      exact ⟨rfl, rfl⟩
end Wh
