/- ShelfPuts: the law's walk -/
import Derived.Test.YteafeopekfhnnaaWalkO
namespace Wh
open Go Go.RowKit Go.Shelf Go.Proofs
attribute [local go_sem] run_indexAt_letter

set_option maxHeartbeats 2000000 in
theorem shelfPutsWalk (w : World) (v vo : Value) (p : Plan) (on : List (List Int)) (b g n : Int) (hp : PlanV w w.heap.size v p) (ho : SlSl cInt w w.heap.size vo on) :
    Calls Try.prog 6 #[v, vo, .int .i64 b, .int .i64 g, .int .i64 n] w fun e w' => e = .returned (.bool true) ∧ Below w.heap.size w w' := by
  have hP := hp
  have hO := ho
  obtain ⟨_, _, rfl, ⟨Ab, cb, rfl, hlb, hb⟩, ⟨As, cs, rfl, hls, hs⟩⟩ := hp
  obtain ⟨A, c, vs, rfl, hl, hvl, hA, hrows⟩ := ho
  have hb0 : Below w.heap.size w (w.alloc (.cells #[.slice Ab p.bins.length cb, .slice As p.sizes.length cs] 25)) := (Below.refl _ _).alloc (Nat.le_refl _) _
  go_enter Try.func6, Try.ntmps6
  go_wp2_with fail
  refine (shelfPut _ _ _ p on b g n (hP.grow hb0) (hO.grow hb0)).mono ?_
  rintro e W1 ⟨x1, rfl, hx1, hb1⟩
  have hb01 := hb0.trans (hb1.mono hb0.size)
  have hc1 := bcell hb1
  go_wp2_with fail
  refine (rPutOf _ _ _ p on b g n (hP.grow hb01) (hO.grow hb01)).mono ?_
  rintro e W2 ⟨x2, rfl, hx2, hb2⟩
  have hb02 := hb01.trans (hb2.mono hb01.size)
  have hx12 := hx1.grow hb2
  go_wp2_with fail
  refine (shelfBegun _).mono ?_
  rintro e W3 ⟨rfl, hb3⟩
  have hb03 := hb02.trans (hb3.mono hb02.size)
  have hx13 := hx12.grow hb3
  have hx23 := hx2.grow hb3
  go_wp2_with fail
  refine (rSameRows _ _ _ _ _ hx13 hx23).mono ?_
  rintro e W4 ⟨rfl, hb4⟩
  have hb04 := hb03.trans (hb4.mono hb03.size)
  go_wp2_with fail
  go_ret
  exact ⟨by simp, hb04⟩
end Wh
