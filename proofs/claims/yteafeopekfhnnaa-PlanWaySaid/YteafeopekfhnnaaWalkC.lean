/- plans: walks with what the call makes -/
import Derived.Test.YteafeopekfhnnaaWalkA
import Derived.Test.YteafeopekfhnnaaWalkB
import Derived.Test.YteafeopekfhnnaaLibIdx
namespace Wh
open Go Go.RowKit Go.Shelf Go.Proofs
attribute [local go_sem] run_indexAt_letter

theorem infoInt : Elem Try.prog 3 (.int .i64 0) 1 8 := elem_of (by kernel_rfl)

set_option maxRecDepth 10000 in
set_option maxHeartbeats 1000000 in
theorem rWayOf (w : World) (v : Value) (p : Plan) (hp : PlanV w w.heap.size v p) (hn : p.bins.length ≤ 100) :
    Calls Try.prog 14 #[v] w (Gives (fun u w' => Own cInt 1 3 w' w.heap.size u (nats (way p))) w) := by
  obtain ⟨_, _, rfl, ⟨Ab, cb, rfl, hlb, hb⟩, ⟨As, cs, rfl, hls, hs⟩⟩ := hp
  have hb0 : Below w.heap.size w (w.alloc (.cells #[.slice Ab p.bins.length cb, .slice As p.sizes.length cs] 25)) := (Below.refl _ _).alloc (Nat.le_refl _) _
  go_enter Try.func14, Try.ntmps14
  go_wp2_with fail
  go_loopw [3, 4] (fun u i wr => ∃ k : Nat, k ≤ p.bins.length ∧ i = .int .i64 k ∧ Own cInt 1 3 wr (w.heap.size + 1) u (nats (kindsTo p true k)) ∧ Below w.heap.size w wr ∧ w.heap.size < wr.heap.size ∧ wr.cell? ⟨w.heap.size, 0, none⟩ = some (.slice Ab p.bins.length cb)) (fun _ i _ => p.bins.length - (intOf i).toNat)
  case atStart => exact ⟨0, Nat.zero_le _, rfl, Own.nil, hb0, by simp, by simp⟩
  case round =>
    obtain ⟨k, hk, rfl, hown, hbw, hsz, hc0⟩ := hrel
    by_cases hlt : k < p.bins.length
    · obtain ⟨hok, hAb, b0, b1, b2, b3⟩ := (hb.up hbw hbw.size).bin hlt
      have hmax : k ≤ 9223372036854775806 := by omega
      cases hf : (binAt p.bins k).front
      · go_wp2_with fail
        go_roundw
        case rel => exact ⟨k + 1, by omega, by go_num, by rw [kindsTo_no (by rw [hf]; decide)]; exact hown, hbw, hsz, hc0⟩
        case measure => simp [intOf]; omega
      · have hlen : (nats (kindsTo p true k)).length ≤ 1000000 := by rw [nats_length]; have := kindsTo_length p true k; omega
        go_wp2_with (at_builtin; refine Hid.out ?_)
        unfold Hid
        refine wpList_push _ rfl (.tmp 19) (.tmp 21) 23 3 rfl (w.heap.size + 1) _ 1 8 Try.underlying23 infoInt rfl (by decide) (by decide) u3 (nats (kindsTo p true k)) (k : Int) rfl (hown.alloc _) ⟨wr.heap.size, 0, none⟩ 1 rfl rfl (cell_one_new _ _ _) (one_int _) hlen (by simp; omega) ?_
        intro v1 w1 hown1 hg1 hat1 hbel1
        have hbw1 : Below w.heap.size w w1 := (hbw.alloc hbw.size _).trans (hbel1.mono (by omega))
        have hsz1 : w.heap.size < w1.heap.size := by have := hg1.size; simp at this; omega
        have hc1 : w1.cell? ⟨w.heap.size, 0, none⟩ = some (.slice Ab p.bins.length cb) := by
          rw [hbel1.cell (p := ⟨w.heap.size, 0, none⟩) (by simp), World.cell?_alloc_lt _ _ _ hsz]; exact hc0
        go_wp2_with fail
        go_roundw
        case rel => exact ⟨k + 1, by omega, by go_num, by rw [kindsTo_yes hf, nats_append]; exact hown1, hbw1, hsz1, hc1⟩
        case measure => simp [intOf]; omega
    · obtain rfl : k = p.bins.length := by omega
      rw [kindsTo_end] at hown
      go_wp2_with fail
      go_loopw [3, 5] (fun u i wr => ∃ k : Nat, k ≤ p.bins.length ∧ i = .int .i64 k ∧ Own cInt 1 3 wr (w.heap.size + 1) u (nats (kinds p true ++ kindsTo p false k)) ∧ Below w.heap.size w wr ∧ w.heap.size < wr.heap.size ∧ wr.cell? ⟨w.heap.size, 0, none⟩ = some (.slice Ab p.bins.length cb)) (fun _ i _ => p.bins.length - (intOf i).toNat)
      case atStart => exact ⟨0, Nat.zero_le _, rfl, by simpa [kindsTo] using hown, hbw, hsz, hc0⟩
      case round =>
        clear hown hbw hsz hc0
        obtain ⟨k, hk, rfl, hown, hbw, hsz, hc0⟩ := hrel
        by_cases hlt : k < p.bins.length
        · obtain ⟨hok, hAb, b0, b1, b2, b3⟩ := (hb.up hbw hbw.size).bin hlt
          cases hf : (binAt p.bins k).front
          · have hlen : (nats (kinds p true ++ kindsTo p false k)).length ≤ 1000000 := by
              rw [nats_length, List.length_append]; have h1 := kindsTo_length p false k; have h2 := kindsTo_length p true p.bins.length; rw [kindsTo_end] at h2; omega
            go_wp2_with (at_builtin; refine Hid.out ?_)
            unfold Hid
            refine wpList_push _ rfl (.tmp 37) (.tmp 39) 23 3 rfl (w.heap.size + 1) _ 1 8 Try.underlying23 infoInt rfl (by decide) (by decide) u3 (nats (kinds p true ++ kindsTo p false k)) (k : Int) rfl (hown.alloc _) ⟨wr.heap.size, 0, none⟩ 1 rfl rfl (cell_one_new _ _ _) (one_int _) hlen (by simp; omega) ?_
            intro v1 w1 hown1 hg1 hat1 hbel1
            have hbw1 : Below w.heap.size w w1 := (hbw.alloc hbw.size _).trans (hbel1.mono (by omega))
            have hsz1 : w.heap.size < w1.heap.size := by have := hg1.size; simp at this; omega
            have hc1 : w1.cell? ⟨w.heap.size, 0, none⟩ = some (.slice Ab p.bins.length cb) := by
              rw [hbel1.cell (p := ⟨w.heap.size, 0, none⟩) (by simp), World.cell?_alloc_lt _ _ _ hsz]; exact hc0
            go_wp2_with fail
            go_roundw
            case rel => exact ⟨k + 1, by omega, by go_num, by rw [kindsTo_yes hf, ← List.append_assoc, nats_append]; exact hown1, hbw1, hsz1, hc1⟩
            case measure => simp [intOf]; omega
          · go_wp2_with fail
            go_roundw
            case rel => exact ⟨k + 1, by omega, by go_num, by rw [kindsTo_no (by rw [hf]; decide)]; exact hown, hbw, hsz, hc0⟩
            case measure => simp [intOf]; omega
        · obtain rfl : k = p.bins.length := by omega
          go_wp2_with fail
          go_ret
          exact ⟨_, rfl, hown.from_ (by omega), hbw⟩
end Wh
