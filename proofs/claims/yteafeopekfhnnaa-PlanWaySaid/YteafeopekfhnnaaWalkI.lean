/- shelf.Used, shelf.Sum: walks -/
import Derived.Test.YteafeopekfhnnaaWalkH
namespace Wh
open Go Go.RowKit Go.Shelf Go.Proofs
attribute [local go_sem] run_indexAt_letter

theorem usedE_ok {p : Plan} {on : List (List Int)} {b : Nat} (h : shelfError p on b 0 = 0) : usedE p on b = usedOf p on b := by
  unfold usedE; rw [if_pos h, Int.toNat_natCast]
theorem usedE_no {p : Plan} {on : List (List Int)} {b : Int} (h : shelfError p on b 0 ≠ 0) : usedE p on b = 0 := by
  unfold usedE; rw [if_neg h]
theorem sumE_ok {p : Plan} {on : List (List Int)} {g : Nat} (h : shelfError p on 0 g = 0) : sumE p on g = sumOf on g := by
  unfold sumE; rw [if_pos h, Int.toNat_natCast]
theorem sumE_no {p : Plan} {on : List (List Int)} {g : Int} (h : shelfError p on 0 g ≠ 0) : sumE p on g = 0 := by
  unfold sumE; rw [if_neg h]

set_option maxHeartbeats 1000000 in
theorem shelfUsed (w : World) (v vo : Value) (p : Plan) (on : List (List Int)) (b : Int) (hp : PlanV w w.heap.size v p) (ho : SlSl cInt w w.heap.size vo on) :
    Calls Try.prog 18 #[v, vo, .int .i64 b] w fun e w' => e = .returned (.tuple #[.int .i64 (usedE p on b), .int .i64 (shelfError p on b 0)]) ∧ Below w.heap.size w w' := by
  have hP := hp
  have hO := ho
  obtain ⟨_, _, rfl, ⟨Ab, cb, rfl, hlb, hb⟩, ⟨As, cs, rfl, hls, hs⟩⟩ := hp
  obtain ⟨A, c, vs, rfl, hl, hvl, hA, hrows⟩ := ho
  have hb0 : Below w.heap.size w (w.alloc (.cells #[.slice Ab p.bins.length cb, .slice As p.sizes.length cs] 25)) := (Below.refl _ _).alloc (Nat.le_refl _) _
  go_enter Try.func18, Try.ntmps18
  go_wp2_with fail
  refine (shelfAsked _ _ _ p on b 0 (hP.up hb0 hb0.size) (hO.up hb0 hb0.size)).mono ?_
  rintro e W1 ⟨rfl, hb1⟩
  have hbw := hb0.trans (hb1.mono (by simp))
  have hsz := hb1.size
  obtain ⟨hc1, hf1⟩ := bcell hb1
  by_cases hz : shelfError p on b 0 = 0
  · obtain ⟨hz1, hz2, hz3⟩ := shelfError_zero.1 hz
    have hbb := isBin_iff.1 hz2
    obtain ⟨b', rfl⟩ : ∃ n : Nat, b = n := ⟨b.toNat, by omega⟩
    have hcnt := right_counts (checkShelf_zero.1 hz1).1
    have hbl : b' < on.length := by rw [right_len hz1]; omega
    have hrow := right_row hz1 hbl
    have hle := Nat.le_of_eq hrow.symm
    have hR := Lib.hid hrow
    clear hrow hbb hz2 hz3
    have hcell1 : W1.cell? ⟨w.heap.size, 1, none⟩ = some (.slice As p.sizes.length cs) := by rw [hc1 _ _ (by simp)]; simp
    have hfin := Lib.hid (usedE_ok hz)
    have hz' := Lib.hid hz
    go_wp2_with fail
    clear hz
    go_loop [9, 22, 10, 11] (fun n i _ _ => ∃ k : Nat, k ≤ p.sizes.length ∧ i = .int .i64 k ∧ n = .int .i64 (sumTo (fun g => cell on b' g * intAt p.sizes g) k)) (fun _ i _ _ => p.sizes.length - (intOf i).toNat)
    case atStart => exact ⟨0, Nat.zero_le _, rfl, rfl⟩
    case round =>
      obtain ⟨k, hk, rfl, rfl⟩ := hrel
      by_cases hlt : k < p.sizes.length
      · obtain ⟨A', c', hok, hAb, hcu, hsu⟩ := (hO.up hbw hbw.size).row hbl
        obtain ⟨hok2, hAb2, b2⟩ := hsu.at_.int (i := k) (by rw [hR.out]; exact hlt)
        obtain ⟨hok3, hAb3, b3⟩ := (hs.up hbw hbw.size).int hlt
        obtain ⟨u1, u2⟩ := used_range hz1 hbl hk
        have hu2 : sumTo (fun g => cell on b' g * intAt p.sizes g) k ≤ 9000 := by omega
        obtain ⟨q1, q2⟩ := prod_range (right_cell hz1 hbl hlt) (right_size (checkShelf_zero.1 hz1).1 hlt)
        unfold cell at q1 q2
        clear u2
        have hlr : k < (rowAt on b').length := by omega
        go_wp2_with fail
        go_round
        case rel => exact ⟨k + 1, by omega, by go_num, rfl⟩
        case measure => simp [intOf]; omega
      · obtain rfl : k = p.sizes.length := by omega
        go_wp2_with fail
        go_ret2
        exact ⟨ret2 (by rw [hfin.out]; rfl) (by rw [hz'.out]; rfl), hbw⟩
  · have hfin := Lib.hid (usedE_no hz)
    have hz' := Lib.hid hz
    go_wp2_with fail
    go_ret2
    exact ⟨ret2 (by rw [hfin.out]; rfl) rfl, hbw⟩

set_option maxHeartbeats 1000000 in
theorem shelfSum (w : World) (v vo : Value) (p : Plan) (on : List (List Int)) (g : Int) (hp : PlanV w w.heap.size v p) (ho : SlSl cInt w w.heap.size vo on) :
    Calls Try.prog 19 #[v, vo, .int .i64 g] w fun e w' => e = .returned (.tuple #[.int .i64 (sumE p on g), .int .i64 (shelfError p on 0 g)]) ∧ Below w.heap.size w w' := by
  have hP := hp
  have hO := ho
  obtain ⟨_, _, rfl, ⟨Ab, cb, rfl, hlb, hb⟩, ⟨As, cs, rfl, hls, hs⟩⟩ := hp
  obtain ⟨A, c, vs, rfl, hl, hvl, hA, hrows⟩ := ho
  have hb0 : Below w.heap.size w (w.alloc (.cells #[.slice Ab p.bins.length cb, .slice As p.sizes.length cs] 25)) := (Below.refl _ _).alloc (Nat.le_refl _) _
  go_enter Try.func19, Try.ntmps19
  go_wp2_with fail
  refine (shelfAsked _ _ _ p on 0 g (hP.up hb0 hb0.size) (hO.up hb0 hb0.size)).mono ?_
  rintro e W1 ⟨rfl, hb1⟩
  have hbw := hb0.trans (hb1.mono (by simp))
  have hsz := hb1.size
  obtain ⟨hc1, hf1⟩ := bcell hb1
  by_cases hz : shelfError p on 0 g = 0
  · obtain ⟨hz1, hz2, hz3⟩ := shelfError_zero.1 hz
    have hbb := isGood_iff.1 hz3
    obtain ⟨g', rfl⟩ : ∃ n : Nat, g = n := ⟨g.toNat, by omega⟩
    have hgn : g' < p.sizes.length := by omega
    have hcnt := right_counts (checkShelf_zero.1 hz1).1
    have hlen := right_len hz1
    have hle := Nat.le_of_eq hlen
    clear hlen hbb hz2 hz3
    have hfin := Lib.hid (sumE_ok hz)
    have hz' := Lib.hid hz
    go_wp2_with fail
    clear hz
    go_loop [9, 21, 11] (fun n i _ => ∃ k : Nat, k ≤ on.length ∧ i = .int .i64 k ∧ n = .int .i64 (sumTo (fun b => cell on b g') k)) (fun _ i _ => on.length - (intOf i).toNat)
    case atStart => exact ⟨0, Nat.zero_le _, rfl, rfl⟩
    case round =>
      obtain ⟨k, hk, rfl, rfl⟩ := hrel
      by_cases hlt : k < on.length
      · obtain ⟨A', c', hok, hAb, hcu, hsu⟩ := (hO.up hbw hbw.size).row hlt
        have hgr : g' < (rowAt on k).length := by rw [right_row hz1 hlt]; exact hgn
        obtain ⟨hok2, hAb2, b2⟩ := hsu.at_.int hgr
        obtain ⟨u1, u2⟩ := sum_range hz1 hgn hk
        have hu2 : sumTo (fun b => cell on b g') k ≤ 9000 := by omega
        obtain ⟨q1, q2⟩ := right_cell hz1 hlt hgn
        unfold cell at q1 q2
        clear u2
        go_wp2_with fail
        go_round
        case rel => exact ⟨k + 1, by omega, by go_num, rfl⟩
        case measure => simp [intOf]; omega
      · obtain rfl : k = on.length := by omega
        go_wp2_with fail
        go_ret2
        exact ⟨ret2 (by rw [hfin.out]; rfl) (by rw [hz'.out]; rfl), hbw⟩
  · have hfin := Lib.hid (sumE_no hz)
    have hz' := Lib.hid hz
    go_wp2_with fail
    go_ret2
    exact ⟨ret2 (by rw [hfin.out]; rfl) rfl, hbw⟩
end Wh
