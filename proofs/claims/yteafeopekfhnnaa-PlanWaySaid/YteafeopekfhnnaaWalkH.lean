/- shelves: what is used, the sums: walks -/
import Derived.Test.YteafeopekfhnnaaWalkG
namespace Wh
open Go Go.RowKit Go.Shelf Go.Proofs
attribute [local go_sem] run_indexAt_letter

set_option maxHeartbeats 1000000 in
theorem rUsedOf (w : World) (v vo : Value) (p : Plan) (on : List (List Int)) (b : Nat) (hp : PlanV w w.heap.size v p) (ho : SlSl cInt w w.heap.size vo on) (hz : checkShelf p on = 0) (hbn : b < p.bins.length) :
    Calls Try.prog 21 #[v, vo, .int .i64 b] w fun e w' => e = .returned (.int .i64 (usedOf p on b)) ∧ Below w.heap.size w w' := by
  have hP := hp
  have hO := ho
  obtain ⟨_, _, rfl, ⟨Ab, cb, rfl, hlb, hb⟩, ⟨As, cs, rfl, hls, hs⟩⟩ := hp
  obtain ⟨A, c, vs, rfl, hl, hvl, hA, hrows⟩ := ho
  have hb0 : Below w.heap.size w (w.alloc (.cells #[.slice Ab p.bins.length cb, .slice As p.sizes.length cs] 25)) := (Below.refl _ _).alloc (Nat.le_refl _) _
  have hbl : b < on.length := by rw [right_len hz]; exact hbn
  have hcnt := right_counts (checkShelf_zero.1 hz).1
  have hrow := right_row hz hbl
  have hle := Nat.le_of_eq hrow.symm
  have hR := Lib.hid hrow
  clear hrow
  go_enter Try.func21, Try.ntmps21
  go_wp2_with fail
  go_loopw [7, 8] (fun n i wr => ∃ k : Nat, k ≤ p.sizes.length ∧ i = .int .i64 k ∧ n = .int .i64 (sumTo (fun g => cell on b g * intAt p.sizes g) k) ∧ Below w.heap.size w wr ∧ w.heap.size < wr.heap.size ∧ wr.cell? ⟨w.heap.size, 1, none⟩ = some (.slice As p.sizes.length cs)) (fun _ i _ => p.sizes.length - (intOf i).toNat)
  case atStart => exact ⟨0, Nat.zero_le _, rfl, rfl, hb0, by simp, by simp⟩
  case round =>
    obtain ⟨k, hk, rfl, rfl, hbw, hsz, hc1⟩ := hrel
    by_cases hlt : k < p.sizes.length
    · obtain ⟨A', c', hok, hAb, hcu, hsu⟩ := (hO.up hbw hbw.size).row hbl
      obtain ⟨hok2, hAb2, b2⟩ := hsu.at_.int (i := k) (by rw [hR.out]; exact hlt)
      obtain ⟨hok3, hAb3, b3⟩ := (hs.up hbw hbw.size).int hlt
      obtain ⟨u1, u2⟩ := used_range hz hbl hk
      have hu2 : sumTo (fun g => cell on b g * intAt p.sizes g) k ≤ 9000 := by omega
      obtain ⟨q1, q2⟩ := prod_range (right_cell hz hbl hlt) (right_size (checkShelf_zero.1 hz).1 hlt)
      unfold cell at q1 q2
      clear u2
      have hlr : k < (rowAt on b).length := by omega
      go_wp2_with fail
      go_quiet (fail)
      go_wp2_with fail
      go_roundw
      case rel => exact ⟨k + 1, by omega, by go_num, rfl, below_drewN hbw _, hsz, hc1⟩
      case measure => simp [intOf]; omega
    · obtain rfl : k = p.sizes.length := by omega
      go_wp2_with fail
      go_ret
      exact ⟨rfl, hbw⟩

set_option maxHeartbeats 1000000 in
theorem rSumOf (w : World) (vo : Value) (p : Plan) (on : List (List Int)) (g : Nat) (ho : SlSl cInt w w.heap.size vo on) (hz : checkShelf p on = 0) (hgn : g < p.sizes.length) :
    Calls Try.prog 22 #[vo, .int .i64 g] w fun e w' => e = .returned (.int .i64 (sumOf on g)) ∧ w = w' := by
  have hO := ho
  obtain ⟨A, c, vs, rfl, hl, hvl, hA, hrows⟩ := ho
  have hcnt := right_counts (checkShelf_zero.1 hz).1
  have hlen := right_len hz
  have hle := Nat.le_of_eq hlen
  clear hlen
  go_enter Try.func22, Try.ntmps22
  go_wp2_with fail
  go_loop [5, 6] (fun n i => ∃ k : Nat, k ≤ on.length ∧ i = .int .i64 k ∧ n = .int .i64 (sumTo (fun b => cell on b g) k)) (fun _ i => on.length - (intOf i).toNat)
  case atStart => exact ⟨0, Nat.zero_le _, rfl, rfl⟩
  case round =>
    obtain ⟨k, hk, rfl, rfl⟩ := hrel
    by_cases hlt : k < on.length
    · obtain ⟨A', c', hok, hAb, hcu, hsu⟩ := hO.row hlt
      have hgr : g < (rowAt on k).length := by rw [right_row hz hlt]; exact hgn
      obtain ⟨hok2, hAb2, b2⟩ := hsu.at_.int hgr
      obtain ⟨u1, u2⟩ := sum_range hz hgn hk
      have hu2 : sumTo (fun b => cell on b g) k ≤ 9000 := by omega
      obtain ⟨q1, q2⟩ := right_cell hz hlt hgn
      unfold cell at q1 q2
      clear u2
      go_wp2_with fail
      go_round
      case rel => exact ⟨k + 1, by omega, by go_num, rfl⟩
      case measure => simp [intOf]; omega
    · obtain rfl : k = on.length := by omega
      go_wp2_with fail
      go_ret
      exact ⟨rfl, rfl⟩
end Wh
