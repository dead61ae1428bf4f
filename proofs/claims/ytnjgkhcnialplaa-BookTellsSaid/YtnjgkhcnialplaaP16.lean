/- Texts of the claim, joined: WalkI, WalkJ. -/
import Derived.Lib.SliceRun
import Derived.Test.YtnjgkhcnialplaaP15
import Derived.Test.YtnjgkhcnialplaaP04
namespace Wh
open Go Go.RowKit Go.Shelf Go.Proofs
attribute [local go_sem] run_indexAt_letter

theorem usedE_ok {p : Plan} {on : List (List Int)} {b : Nat} (h : shelfError p on b 0 = 0) : usedE p on b = usedOf p on b := by
  unfold usedE; rw [if_pos h, Int.toNat_natCast]
theorem usedE_no {p : Plan} {on : List (List Int)} {b : Int} (h : shelfError p on b 0 ≠ 0) : usedE p on b = 0 := by
  unfold usedE; rw [if_neg h]
theorem sumE_ok {p : Plan} {on : List (List Int)} {g : Nat} (h : shelfError p on 0 g = 0) : sumE p on g = sumOf on g := by
  unfold sumE; rw [if_pos h, Int.toNat_natCast]
theorem sumE_no {p : Plan} {on : List (List Int)} {g : Int} (h : shelfError p on 0 g ≠ 0) : sumE p on g = 0 := by
  unfold sumE; rw [if_neg h]

set_option maxHeartbeats 1000000 in
theorem shelfSum (w : World) (v vo : Value) (p : Plan) (on : List (List Int)) (g : Int) (hp : PlanV w w.heap.size v p) (ho : SlSl cInt w w.heap.size vo on) :
    Calls Try.prog 31 #[v, vo, .int .i64 g] w fun e w' => e = .returned (.tuple #[.int .i64 (sumE p on g), .int .i64 (shelfError p on 0 g)]) ∧ Below w.heap.size w w' := by
  have hP := hp
  have hO := ho
  obtain ⟨_, _, rfl, ⟨Ab, cb, rfl, hlb, hb⟩, ⟨As, cs, rfl, hls, hs⟩⟩ := hp
  obtain ⟨A, c, vs, rfl, hl, hvl, hA, hrows⟩ := ho
  have hb0 : Below w.heap.size w (w.alloc (.cells #[.slice Ab p.bins.length cb, .slice As p.sizes.length cs] 25)) := (Below.refl _ _).alloc (Nat.le_refl _) _
  go_enter Try.func31, Try.ntmps31
  go_wp2_with fail
  refine (shelfAsked _ _ _ p on 0 g (hP.up hb0 hb0.size) (hO.up hb0 hb0.size)).mono ?_
  rintro e W1 ⟨rfl, hb1⟩
  have hbw := hb0.trans (hb1.mono (by simp))
  have hsz := hb1.size
  obtain ⟨hc1, hf1⟩ := bcell hb1
  by_cases hz : shelfError p on 0 g = 0
  · obtain ⟨hz1, hz2, hz3⟩ := shelfError_zero.1 hz
    have hbb := isGood_iff.1 hz3
    obtain ⟨g', rfl⟩ : ∃ n : Nat, g = n := ⟨g.toNat, by omega⟩
    have hgn : g' < p.sizes.length := by omega
    have hcnt := right_counts (checkShelf_zero.1 hz1).1
    have hlen := right_len hz1
    have hle := Nat.le_of_eq hlen
    clear hlen hbb hz2 hz3
    have hfin := Lib.hid (sumE_ok hz)
    have hz' := Lib.hid hz
    go_wp2_with fail
    clear hz
    go_loop [9, 21, 11] (fun n i _ => ∃ k : Nat, k ≤ on.length ∧ i = .int .i64 k ∧ n = .int .i64 (sumTo (fun b => cell on b g') k)) (fun _ i _ => on.length - (intOf i).toNat)
    case atStart => exact ⟨0, Nat.zero_le _, rfl, rfl⟩
    case round =>
      obtain ⟨k, hk, rfl, rfl⟩ := hrel
      by_cases hlt : k < on.length
      · obtain ⟨A', c', hok, hAb, hcu, hsu⟩ := (hO.up hbw hbw.size).row hlt
        have hgr : g' < (rowAt on k).length := by rw [right_row hz1 hlt]; exact hgn
        obtain ⟨hok2, hAb2, b2⟩ := hsu.at_.int hgr
        obtain ⟨u1, u2⟩ := sum_range hz1 hgn hk
        have hu2 : sumTo (fun b => cell on b g') k ≤ 9000 := by omega
        obtain ⟨q1, q2⟩ := right_cell hz1 hlt hgn
        unfold cell at q1 q2
        clear u2
        go_wp2_with fail
        go_round
        case rel => exact ⟨k + 1, by omega, by go_num, rfl⟩
        case measure => simp [intOf]; omega
      · obtain rfl : k = on.length := by omega
        go_wp2_with fail
        go_ret2
        exact ⟨ret2 (by rw [hfin.out]; rfl) (by rw [hz'.out]; rfl), hbw⟩
  · have hfin := Lib.hid (sumE_no hz)
    have hz' := Lib.hid hz
    go_wp2_with fail
    go_ret2
    exact ⟨ret2 (by rw [hfin.out]; rfl) rfl, hbw⟩
end Wh
namespace Wh
open Go Go.RowKit Go.Shelf Go.Proofs
attribute [local go_sem] run_indexAt_letter

theorem infoInts : Elem Try.prog 23 (.slice none 0 0) 1 24 := elem_of (by kernel_rfl)

set_option maxHeartbeats 1000000 in
theorem cloneInt (w : World) (v : Value) (l : List Int) (hv : Sl cInt w w.heap.size v l) (hn : l.length ≤ 1000000) :
    Calls Try.prog 103 #[v] w (Gives (fun u w' => Own cInt 1 3 w' w.heap.size u l) w) := by
  obtain ⟨A, c, rfl, hl, hA⟩ := hv
  have qT : ∀ (w : World) (a : Option Addr) (n c n' c' : Nat), (binOp .eql 23 (.slice a n c) (.slice none n' c')).run Try.prog w = .ok (.bool a.isNone) w := fun w a n c n' c' => Lib.run_eql_slice_nil w _ _ a n c n' c' Try.underlying23
  cases A with
  | none =>
    have h0 : l = [] := by
      cases l with
      | nil => rfl
      | cons x r => exact absurd (hA.ok (by simp [cInt])) (by rintro ⟨b, off, h⟩; cases h)
    subst h0
    go_enter Try.func103, Try.ntmps103
    go_wp2_with (at_builtin; refine Hid.out ?_)
    go_ret
    exact ⟨_, rfl, Own.nil, Below.refl _ _⟩
  | some ad =>
    go_enter Try.func103, Try.ntmps103
    go_wp2_with (at_builtin; refine Hid.out ?_)
    unfold Hid
    refine wpList_all _ rfl (.tmp 5) (.tmp 6) 23 3 rfl w.heap.size _ 1 8 Try.underlying23 infoInt rfl (by decide) (by decide) (.slice (some ⟨w.heap.size, 0, none⟩) 0 0) ([] : List Int) l rfl (Own.made0 w _ (Nat.le_refl _)) (some ad) c w.heap.size rfl (fun _ => rfl)
      (hA.up ((Below.refl _ _).alloc (Nat.le_refl _) _) (Nat.le_refl _)) (fun y => one_int y) (by simpa using hn) (by simp) ?_
    intro v1 w1 hown1 hg1 hat1 hbel1
    go_wp2_with fail
    go_ret
    exact ⟨_, rfl, by simpa using hown1, ((Below.refl _ _).alloc (Nat.le_refl _) _).trans hbel1⟩

theorem take_snoc {α : Type} {l : List α} {k : Nat} (h : k < l.length) : l.take (k + 1) = l.take k ++ [l[k]] := by
  rw [List.take_succ_eq_append_getElem h]
theorem one_val (v : Value) (h : v.oneCell' = true) : ∀ u ∈ (fun x : Value => [x]) v, u.oneCell' = true := by simpa using h

set_option maxHeartbeats 1000000 in
theorem shelfOwn (w : World) (v : Value) (on : List (List Int)) (hv : SlSl cInt w w.heap.size v on) (hn : on.length ≤ 1000) (hr : ∀ k, k < on.length → 0 < (rowAt on k).length ∧ (rowAt on k).length ≤ 1000) :
    Calls Try.prog 100 #[v] w (Gives (fun u w' => ∃ gs, OwnOn 23 3 w' w.heap.size u on gs) w) := by
  have hO := hv
  obtain ⟨A, c, vs, rfl, hl, hvl, hA, hrows⟩ := hv
  go_enter Try.func100, Try.ntmps100
  go_wp2_with fail
  go_loopw [3, 5, 8] (fun u _ i wr => ∃ (k : Nat) (gs : List Nat), k ≤ on.length ∧ i = .int .i64 k ∧ OwnOn 23 3 wr w.heap.size u (on.take k) gs ∧ Below w.heap.size w wr) (fun _ _ i _ => on.length - (intOf i).toNat)
  case atStart => exact ⟨0, [], Nat.zero_le _, rfl, OwnOn.nil, Below.refl _ _⟩
  case round =>
    obtain ⟨k, gs, hk, rfl, hown, hbw⟩ := hrel
    by_cases hlt : k < on.length
    · obtain ⟨A', c', hok, hAb, hcu, hsu⟩ := (hO.up hbw hbw.size).row hlt
      have hrk := hr k hlt
      go_wp2_with (first | (at_builtin; refine Hid.out ?_) | fail)
      refine (cloneInt _ _ _ hsu (by omega)).mono ?_
      rintro e W1 ⟨u, rfl, hu, hb1⟩
      obtain ⟨g, cu, rfl, hgb, hgl⟩ := hu.some_ hrk.1
      obtain ⟨vs', hV⟩ := hown
      have h1 := hV.1
      have h2 := hV.2.1
      have hlen : (on.take k).length ≤ 1000 := Nat.le_trans (List.length_take_le _ _) (by omega)
      have hbw1 := hbw.trans (hb1.mono hbw.size)
      go_wp2_with (first | (at_builtin; refine Hid.out ?_) | fail)
      unfold Hid
      refine wpList_push _ rfl (.tmp 12) (.tmp 15) 26 23 rfl w.heap.size _ 1 24 Try.underlying26 infoInts rfl (by decide) (by decide) u3 vs' (.slice (some ⟨g, 0, none⟩) (rowAt on k).length cu) rfl ((h1.below hb1).alloc _) ⟨W1.heap.size, 0, none⟩ 1 rfl rfl (cell_one_new _ _ _) (one_val _ rfl) (by omega) (by have := hbw1.size; simp; omega) ?_
      intro v2 w2 hown2 hg2 hat2 hbel2
      have hpush := OwnOnV.push (by decide) hV (hb1.alloc hb1.size _) hgb ((hu.from_ hbw.size).alloc _) hg2 hown2
      rw [rowAt_eq hlt, ← take_snoc hlt] at hpush
      have hbw2 := (hbw1.alloc hbw1.size (.cells #[.slice (some ⟨g, 0, none⟩) (rowAt on k).length cu] 23)).trans hbel2
      go_wp2_with fail
      go_roundw
      case rel => exact ⟨k + 1, _, by omega, by go_num, hpush, hbw2⟩
      case measure => simp [intOf]; omega

    · obtain rfl : k = on.length := by omega
      rw [List.take_length] at hown
      go_wp2_with fail
      go_ret
      exact ⟨_, rfl, ⟨gs, hown⟩, hbw⟩
end Wh
