/- ShelfTrue: the law's walk -/
import Derived.Test.YteafeopekfhnnaaWalkO
import Derived.Test.YteafeopekfhnnaaPlainC
namespace Wh
open Go Go.RowKit Go.Shelf Go.Proofs
attribute [local go_sem] run_indexAt_letter

set_option maxHeartbeats 2000000 in
theorem shelfTrueWalk (w : World) (v vo : Value) (p : Plan) (on : List (List Int)) (b g n o : Int) (hp : PlanV w w.heap.size v p) (ho : SlSl cInt w w.heap.size vo on) :
    Calls Try.prog 7 #[v, vo, .int .i64 b, .int .i64 g, .int .i64 n, .int .i64 o] w fun e w' => e = .returned (.bool true) ∧ Below w.heap.size w w' := by
  have hP := hp
  have hO := ho
  obtain ⟨_, _, rfl, ⟨Ab, cb, rfl, hlb, hb⟩, ⟨As, cs, rfl, hls, hs⟩⟩ := hp
  obtain ⟨A, c, vs, rfl, hl, hvl, hA, hrows⟩ := ho
  have hb0 : Below w.heap.size w (w.alloc (.cells #[.slice Ab p.bins.length cb, .slice As p.sizes.length cs] 25)) := (Below.refl _ _).alloc (Nat.le_refl _) _
  go_enter Try.func7, Try.ntmps7
  go_wp2_with fail
  refine (shelfPut _ _ _ p on b g n (hP.grow hb0) (hO.grow hb0)).mono ?_
  rintro e W1 ⟨x, rfl, hx1, hb1⟩
  have hA1 := hb1
  have hb01 := hb0.trans (hA1.mono hb0.size)
  obtain ⟨hc1, hf1⟩ := bcell hA1
  by_cases hz : (put p on b g n).2 = 0
  · obtain ⟨q1, q2, q3, q4, q5, q6, q7, q8⟩ := put_true hz
    have hr : 0 ≤ sumE p on g ∧ sumE p on g ≤ 1200 := sumE_range p on g
    obtain ⟨r1, r2⟩ := hr
    generalize (put p on b g n).1 = l at q1 q3 q4 q5 q6 q7 hx1
    go_wp2_with fail
    refine (shelfSum _ _ _ p on g (hP.grow hb01) (hO.grow hb01)).mono ?_
    rintro e W2 ⟨rfl, hb2⟩
    have hA2 := hA1.trans (hb2.mono hA1.size)
    have hb02 := hb0.trans (hA2.mono hb0.size)
    obtain ⟨hc2, hf2⟩ := bcell hA2
    have hx2 := hx1.grow hb2
    go_wp2_with fail
    refine (shelfSum _ _ _ p l g (hP.grow hb02) hx2).mono ?_
    rintro e W3 ⟨rfl, hb3⟩
    have hA3 := hA2.trans (hb3.mono hA2.size)
    have hb03 := hb0.trans (hA3.mono hb0.size)
    obtain ⟨hc3, hf3⟩ := bcell hA3
    have hx3 := hx2.grow hb3
    go_wp2_with fail
    refine (shelfUsed _ _ _ p on o (hP.grow hb03) (hO.grow hb03)).mono ?_
    rintro e W4 ⟨rfl, hb4⟩
    have hA4 := hA3.trans (hb4.mono hA3.size)
    have hb04 := hb0.trans (hA4.mono hb0.size)
    obtain ⟨hc4, hf4⟩ := bcell hA4
    have hx4 := hx3.grow hb4
    go_wp2_with fail
    refine (shelfUsed _ _ _ p l o (hP.grow hb04) hx4).mono ?_
    rintro e W5 ⟨rfl, hb5⟩
    have hA5 := hA4.trans (hb5.mono hA4.size)
    have hb05 := hb0.trans (hA5.mono hb0.size)
    obtain ⟨hc5, hf5⟩ := bcell hA5
    have hx5 := hx4.grow hb5
    go_wp2_with fail
    refine (shelfPut _ _ _ p l b g (-n) (hP.grow hb05) hx5).mono ?_
    rintro e W6 ⟨y, rfl, hy6, hb6⟩
    have hA6 := hA5.trans (hb6.mono hA5.size)
    have hb06 := hb0.trans (hA6.mono hb0.size)
    obtain ⟨hc6, hf6⟩ := bcell hA6
    have hx6 := hx5.grow hb6
    rw [q7] at hy6 ⊢
    go_wp2_with fail
    refine (shelfBegun _).mono ?_
    rintro e W7 ⟨rfl, hb7⟩
    have hA7 := hA6.trans (hb7.mono hA6.size)
    have hb07 := hb0.trans (hA7.mono hb0.size)
    obtain ⟨hc7, hf7⟩ := bcell hA7
    have hx7 := hx6.grow hb7
    have hy7 := hy6.grow hb7
    go_wp2_with fail
    refine (shelfCheck _ _ _ p l (hP.grow hb07) hx7).mono ?_
    rintro e W8 ⟨rfl, hb8⟩
    have hA8 := hA7.trans (hb8.mono hA7.size)
    have hb08 := hb0.trans (hA8.mono hb0.size)
    obtain ⟨hc8, hf8⟩ := bcell hA8
    have hy8 := hy7.grow hb8
    by_cases hob : o = b
    · subst hob
      go_wp2_with fail
      refine (rSameRows _ _ _ _ _ hy8 (hO.grow hb08)).mono ?_
      rintro e W9 ⟨rfl, hb9⟩
      have hb09 := hb08.trans (hb9.mono hb08.size)
      go_wp2_with fail
      go_ret
      exact ⟨by simp [*], hb09⟩
    · have hobb : (o == b) = false := by simpa using hob
      have q6' := q6 o hob
      go_wp2_with fail
      refine (rSameRows _ _ _ _ _ hy8 (hO.grow hb08)).mono ?_
      rintro e W9 ⟨rfl, hb9⟩
      have hb09 := hb08.trans (hb9.mono hb08.size)
      go_wp2_with fail
      go_ret
      exact ⟨by simp [*], hb09⟩
  · have hzb : ((put p on b g n).2 == 0) = false := by simpa using hz
    go_wp2_with fail
    refine (shelfBegun _).mono ?_
    rintro e W7 ⟨rfl, hb7⟩
    have hA7 := hA1.trans (hb7.mono hA1.size)
    have hb07 := hb0.trans (hA7.mono hb0.size)
    obtain ⟨hc7, hf7⟩ := bcell hA7
    go_wp2_with fail
    go_ret
    exact ⟨rfl, hb07⟩
end Wh
