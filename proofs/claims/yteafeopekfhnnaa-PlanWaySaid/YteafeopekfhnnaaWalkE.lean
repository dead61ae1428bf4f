/- shelves: walks that only read -/
import Derived.Test.YteafeopekfhnnaaWalkD
namespace Wh
open Go Go.RowKit Go.Shelf Go.Proofs
attribute [local go_sem] run_indexAt_letter

set_option maxHeartbeats 400000 in
theorem rIsBin (w : World) (v : Value) (p : Plan) (b : Int) (hp : PlanV w w.heap.size v p) (hn : p.bins.length ≤ 1000) :
    Calls Try.prog 48 #[v, .int .i64 b] w fun e w' => e = .returned (.bool (isBin p b)) ∧ Below w.heap.size w w' := by
  obtain ⟨_, _, rfl, ⟨Ab, cb, rfl, hlb, hb⟩, ⟨As, cs, rfl, hls, hs⟩⟩ := hp
  go_enter Try.func48, Try.ntmps48
  go_wp2_with (go_at_call 40; refine (rWithin _ _ _ _).mono ?_; rintro e w' ⟨rfl, rfl⟩)
  go_ret
  exact ⟨rfl, (Below.refl _ _).alloc (Nat.le_refl _) _⟩
set_option maxHeartbeats 400000 in
theorem rIsGood (w : World) (v : Value) (p : Plan) (g : Int) (hp : PlanV w w.heap.size v p) (hn : p.sizes.length ≤ 1000) :
    Calls Try.prog 49 #[v, .int .i64 g] w fun e w' => e = .returned (.bool (isGood p g)) ∧ Below w.heap.size w w' := by
  obtain ⟨_, _, rfl, ⟨Ab, cb, rfl, hlb, hb⟩, ⟨As, cs, rfl, hls, hs⟩⟩ := hp
  go_enter Try.func49, Try.ntmps49
  go_wp2_with (go_at_call 40; refine (rWithin _ _ _ _).mono ?_; rintro e w' ⟨rfl, rfl⟩)
  go_ret
  exact ⟨rfl, (Below.refl _ _).alloc (Nat.le_refl _) _⟩

theorem there_parts (p : Plan) (b g : Int) : (b < 0 ∧ (isBin p b && isGood p g) = false) ∨ (0 ≤ b ∧ (p.bins.length : Int) ≤ b ∧ (isBin p b && isGood p g) = false) ∨
    (0 ≤ b ∧ b < p.bins.length ∧ g < 0 ∧ (isBin p b && isGood p g) = false) ∨ (0 ≤ b ∧ b < p.bins.length ∧ 0 ≤ g ∧ (p.sizes.length : Int) ≤ g ∧ (isBin p b && isGood p g) = false) ∨
    (0 ≤ b ∧ b < p.bins.length ∧ 0 ≤ g ∧ g < p.sizes.length ∧ (isBin p b && isGood p g) = true) := by
  have h1 := @isBin_iff p b
  have h2 := @isGood_iff p g
  cases hb : isBin p b <;> cases hg : isGood p g <;> simp [hb, hg] at h1 h2 ⊢ <;> omega

set_option maxHeartbeats 400000 in
theorem shThere (w : World) (v : Value) (p : Plan) (b g : Int) (hp : PlanV w w.heap.size v p) :
    Calls Try.prog 66 #[v, .int .i64 b, .int .i64 g] w fun e w' => e = .returned (.bool (isBin p b && isGood p g)) ∧ Below w.heap.size w w' := by
  obtain ⟨_, _, rfl, ⟨Ab, cb, rfl, hlb, hb⟩, ⟨As, cs, rfl, hls, hs⟩⟩ := hp
  go_enter Try.func66, Try.ntmps66
  rcases there_parts p b g with ⟨h1, h⟩ | ⟨h1, h2, h⟩ | ⟨h1, h2, h3, h⟩ | ⟨h1, h2, h3, h4, h⟩ | ⟨h1, h2, h3, h4, h⟩
  all_goals
    go_wp2
    go_ret
    exact ⟨ret_bool (by first | rfl | (simp <;> omega) | (rw [h] <;> first | rfl | (simp <;> omega))), (Below.refl _ _).alloc (Nat.le_refl _) _⟩

set_option maxHeartbeats 400000 in
theorem shelfBad (p : Plan) (row : List Int) (W : World) (B : Nat) (u : Value) (hn : 0 < p.sizes.length) (As : Option Addr) (cs : Nat) (hc : W.cell? ⟨B, 1, none⟩ = some (.slice As p.sizes.length cs)) (hu : Sl cInt W W.heap.size u row) :
    Calls Try.prog 50 #[u, .pointer (some ⟨B, 0, none⟩)] W fun e W' => e = .returned (.bool (!rowOk p row)) ∧ Below W.heap.size W W' := by
  have hu' := hu
  obtain ⟨A, c, rfl, hl, hA⟩ := hu
  go_enter Try.func50, Try.ntmps50
  rcases rowOk_bad row hn with ⟨h1, h⟩ | ⟨h1, h2, h⟩ | ⟨h1, h2, h3, h⟩ | ⟨h1, h2, h3, h⟩
  · go_wp2_with fail
    go_ret
    exact ⟨ret_bool (by rw [h]; rfl), Below.refl _ _⟩
  all_goals
    have hpos : 0 < row.length := by omega
    have hle1 := Nat.le_of_eq h1
    have hle2 := Nat.le_of_eq h1.symm
    clear h1
    go_wp2_with (first | (go_at_call 45; refine (slMin _ _ row hu' hpos).mono ?_; rintro e w' ⟨rfl, rfl⟩) | (go_at_call 46; refine (slMax _ _ row hu' hpos).mono ?_; rintro e w' ⟨rfl, rfl⟩))
    go_ret
    exact ⟨ret_bool (by first | rfl | (simp <;> omega) | (rw [h] <;> first | rfl | (simp <;> omega))), Below.refl _ _⟩
theorem entersShelfBad : Enters Try.prog 50 := enters_of Try.func50 (by kernel_rfl) rfl
end Wh
