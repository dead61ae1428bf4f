/- Texts of the claim, joined: WalkK. -/
import Derived.Test.YtnjgkhcnialplaaP16
namespace Wh
open Go Go.RowKit Go.Shelf Go.Proofs
attribute [local go_sem] run_indexAt_letter

set_option maxHeartbeats 1000000 in
theorem rOwnOn (w : World) (v : Value) (on : List (List Int)) (hv : SlSl cInt w w.heap.size v on) (hn : on.length ≤ 1000) (hr : ∀ k, k < on.length → 0 < (rowAt on k).length ∧ (rowAt on k).length ≤ 1000) :
    Calls Try.prog 104 #[v] w (Gives (fun u w' => ∃ gs, OwnOn 23 3 w' w.heap.size u on gs) w) := by
  have hO := hv
  obtain ⟨A, c, vs, rfl, hl, hvl, hA, hrows⟩ := hv
  go_enter Try.func104, Try.ntmps104
  go_wp2_with fail
  go_loopw [3, 4] (fun u i wr => ∃ (k : Nat) (gs : List Nat), k ≤ on.length ∧ i = .int .i64 k ∧ OwnOn 23 3 wr w.heap.size u (on.take k) gs ∧ Below w.heap.size w wr) (fun _ i _ => on.length - (intOf i).toNat)
  case atStart => exact ⟨0, [], Nat.zero_le _, rfl, OwnOn.nil, Below.refl _ _⟩
  case round =>
    obtain ⟨k, gs, hk, rfl, hown, hbw⟩ := hrel
    by_cases hlt : k < on.length
    · obtain ⟨A', c', hok, hAb, hcu, hsu⟩ := (hO.up hbw hbw.size).row hlt
      have hrk := hr k hlt
      have hA2 := hsu.at_
      obtain ⟨vs', hV⟩ := hown
      have h1 := hV.1
      have h2 := hV.2.1
      have hlen : (on.take k).length ≤ 1000 := Nat.le_trans (List.length_take_le _ _) (by omega)
      go_wp2_with (first | (at_builtin; refine Hid.out ?_) | fail)
      unfold Hid
      refine wpList_all _ rfl (.tmp 12) (.tmp 16) 23 3 rfl wr.heap.size _ 1 8 Try.underlying23 infoInt rfl (by decide) (by decide) (.slice (some ⟨wr.heap.size, 0, none⟩) 0 0) ([] : List Int) (rowAt on k) rfl (Own.made0 wr _ (Nat.le_refl _)) A' c' wr.heap.size rfl (fun _ => rfl)
        (hA2.up ((Below.refl _ _).alloc (Nat.le_refl _) _) (Nat.le_refl _)) (fun y => one_int y) (by simp; omega) (by simp) ?_
      intro v1 w1 hown1 hg1 hat1 hbel1
      rw [List.nil_append] at hown1
      obtain ⟨g, cu, rfl, hgb, hgl⟩ := hown1.some_ hrk.1
      have hb1 : Below wr.heap.size wr w1 := ((Below.refl _ _).alloc (Nat.le_refl _) _).trans hbel1
      have hbw1 := hbw.trans (hb1.mono hbw.size)
      go_wp2_with (first | (at_builtin; refine Hid.out ?_) | fail)
      unfold Hid
      refine wpList_push _ rfl (.tmp 11) (.tmp 18) 26 23 rfl w.heap.size _ 1 24 Try.underlying26 infoInts rfl (by decide) (by decide) u3 vs' (.slice (some ⟨g, 0, none⟩) (rowAt on k).length cu) rfl ((h1.below hb1).alloc _) ⟨w1.heap.size, 0, none⟩ 1 rfl rfl (cell_one_new _ _ _) (one_val _ rfl) (by omega) (by have := hbw1.size; simp; omega) ?_
      intro v2 w2 hown2 hg2 hat2 hbel2
      have hpush := OwnOnV.push (by decide) hV (hb1.alloc hb1.size _) hgb ((hown1.from_ hbw.size).alloc _) hg2 hown2
      rw [rowAt_eq hlt, ← take_snoc hlt] at hpush
      have hbw2 := (hbw1.alloc hbw1.size (.cells #[.slice (some ⟨g, 0, none⟩) (rowAt on k).length cu] 23)).trans hbel2
      go_wp2_with fail
      go_roundw
      case rel => exact ⟨k + 1, _, by omega, by go_num, hpush, hbw2⟩
      case measure => simp [intOf]; omega
    · obtain rfl : k = on.length := by omega
      rw [List.take_length] at hown
      go_wp2_with fail
      go_ret
      exact ⟨_, rfl, ⟨gs, hown⟩, hbw⟩
end Wh
