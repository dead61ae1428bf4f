/- shelves: the errors, what is used, the sums: walks -/
import Derived.Test.YteafeopekfhnnaaWalkF
namespace Wh
open Go Go.RowKit Go.Shelf Go.Proofs
attribute [local go_sem] run_indexAt_letter

theorem shelfError_check {p : Plan} {on : List (List Int)} {b g : Int} (h : checkShelf p on ≠ 0) : shelfError p on b g = checkShelf p on := by
  unfold shelfError
  rw [if_pos h]
theorem shelfError_there {p : Plan} {on : List (List Int)} {b g : Int} (h : checkShelf p on = 0) (h2 : (isBin p b && isGood p g) = false) : shelfError p on b g = 3 := by
  unfold shelfError
  simp [h, h2]
theorem shelfError_ok {p : Plan} {on : List (List Int)} {b g : Int} (h : checkShelf p on = 0) (h2 : (isBin p b && isGood p g) = true) : shelfError p on b g = 0 := by
  unfold shelfError
  simp [h, h2]

set_option maxHeartbeats 1000000 in
theorem shelfAsked (w : World) (v vo : Value) (p : Plan) (on : List (List Int)) (b g : Int) (hp : PlanV w w.heap.size v p) (ho : SlSl cInt w w.heap.size vo on) :
    Calls Try.prog 47 #[v, vo, .int .i64 b, .int .i64 g] w fun e w' => e = .returned (.int .i64 (shelfError p on b g)) ∧ Below w.heap.size w w' := by
  have hP := hp
  have hO := ho
  obtain ⟨_, _, rfl, ⟨Ab, cb, rfl, hlb, hb⟩, ⟨As, cs, rfl, hls, hs⟩⟩ := hp
  have hb0 : Below w.heap.size w (w.alloc (.cells #[.slice Ab p.bins.length cb, .slice As p.sizes.length cs] 25)) := (Below.refl _ _).alloc (Nat.le_refl _) _
  go_enter Try.func47, Try.ntmps47
  go_wp2_with fail
  refine (shelfCheck _ _ vo p on (hP.up hb0 hb0.size) (hO.up hb0 hb0.size)).mono ?_
  rintro e W1 ⟨rfl, hb1⟩
  have hbw := hb0.trans (hb1.mono (by simp))
  have hsz := hb1.size
  obtain ⟨hc1, hf1⟩ := bcell hb1
  by_cases hz : checkShelf p on = 0
  · go_wp2_with fail
    refine (shThere _ _ p b g (hP.up hbw hbw.size)).mono ?_
    rintro e W2 ⟨rfl, hb2⟩
    have hbw2 := hbw.trans (hb2.mono hbw.size)
    cases ht : (isBin p b && isGood p g)
    · have hfin := Lib.hid (shelfError_there hz ht)
      go_wp2_with fail
      go_ret
      exact ⟨ret_int hfin.out.symm, hbw2⟩
    · have hfin := Lib.hid (shelfError_ok hz ht)
      go_wp2_with fail
      go_ret
      exact ⟨ret_int hfin.out.symm, hbw2⟩
  · have hfin := Lib.hid (shelfError_check (b := b) (g := g) hz)
    go_wp2_with fail
    go_ret
    exact ⟨ret_int hfin.out.symm, hbw⟩

set_option maxHeartbeats 1000000 in
theorem rShelfError (w : World) (v vo : Value) (p : Plan) (on : List (List Int)) (b g : Int) (hp : PlanV w w.heap.size v p) (ho : SlSl cInt w w.heap.size vo on) :
    Calls Try.prog 20 #[v, vo, .int .i64 b, .int .i64 g] w fun e w' => e = .returned (.int .i64 (shelfError p on b g)) ∧ Below w.heap.size w w' := by
  have hP := hp
  have hO := ho
  obtain ⟨_, _, rfl, ⟨Ab, cb, rfl, hlb, hb⟩, ⟨As, cs, rfl, hls, hs⟩⟩ := hp
  have hb0 : Below w.heap.size w (w.alloc (.cells #[.slice Ab p.bins.length cb, .slice As p.sizes.length cs] 25)) := (Below.refl _ _).alloc (Nat.le_refl _) _
  go_enter Try.func20, Try.ntmps20
  go_wp2_with fail
  refine (rCheckShelf _ _ vo p on (hP.up hb0 hb0.size) (hO.up hb0 hb0.size)).mono ?_
  rintro e W1 ⟨rfl, hb1⟩
  have hbw := hb0.trans (hb1.mono (by simp))
  have hsz := hb1.size
  obtain ⟨hc1, hf1⟩ := bcell hb1
  by_cases hz : checkShelf p on = 0
  · have hpl := checkPlan_zero.1 (checkShelf_zero.1 hz).1
    go_wp2_with fail
    refine (rIsBin _ _ p b (hP.up hbw hbw.size) (by omega)).mono ?_
    rintro e W2 ⟨rfl, hb2⟩
    have hbw2 := hbw.trans (hb2.mono hbw.size)
    obtain ⟨hc2, hf2⟩ := bcell hb2
    have hsz2 := hb2.size
    cases hbn : isBin p b
    · have hfin := Lib.hid (shelfError_there (g := g) hz (by rw [hbn]; rfl))
      go_wp2_with fail
      go_ret
      exact ⟨ret_int hfin.out.symm, hbw2⟩
    · have hlt2 : w.heap.size < W1.heap.size := by simp at hsz; omega
      go_wp2_with fail
      refine (rIsGood _ _ p g (hP.up hbw2 hbw2.size) (by omega)).mono ?_
      rintro e W3 ⟨rfl, hb3⟩
      have hbw3 := hbw2.trans (hb3.mono hbw2.size)
      cases hgn : isGood p g
      · have hfin := Lib.hid (shelfError_there (b := b) (g := g) hz (by rw [hbn, hgn]; rfl))
        go_wp2_with fail
        go_ret
        exact ⟨ret_int hfin.out.symm, hbw3⟩
      · have hfin := Lib.hid (shelfError_ok (b := b) (g := g) hz (by rw [hbn, hgn]; rfl))
        go_wp2_with fail
        go_ret
        exact ⟨ret_int hfin.out.symm, hbw3⟩
  · have hfin := Lib.hid (shelfError_check (b := b) (g := g) hz)
    go_wp2_with fail
    go_ret
    exact ⟨ret_int hfin.out.symm, hbw⟩
end Wh
