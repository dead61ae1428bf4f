/- R.PutOf: walk -/
import Derived.Test.YteafeopekfhnnaaWalkL
namespace Wh
open Go Go.RowKit Go.Shelf Go.Proofs
attribute [local go_sem] run_indexAt_letter

set_option maxHeartbeats 2000000 in
theorem rPutOf (w : World) (v vo : Value) (p : Plan) (on : List (List Int)) (b g n : Int) (hp : PlanV w w.heap.size v p) (ho : SlSl cInt w w.heap.size vo on) :
    Calls Try.prog 27 #[v, vo, .int .i64 b, .int .i64 g, .int .i64 n] w (PutPost p on b g n w) := by
  have hP := hp
  have hO := ho
  obtain ⟨_, _, rfl, ⟨Ab, cb, rfl, hlb, hb⟩, ⟨As, cs, rfl, hls, hs⟩⟩ := hp
  obtain ⟨A, c, vs, rfl, hl, hvl, hA, hrows⟩ := ho
  have hb0 : Below w.heap.size w (w.alloc (.cells #[.slice Ab p.bins.length cb, .slice As p.sizes.length cs] 25)) := (Below.refl _ _).alloc (Nat.le_refl _) _
  go_enter Try.func27, Try.ntmps27
  go_wp2_with fail
  refine (rShelfError _ _ _ p on b g (hP.up hb0 hb0.size) (hO.up hb0 hb0.size)).mono ?_
  rintro e W1 ⟨rfl, hb1⟩
  have hbw := hb0.trans (hb1.mono (by simp))
  by_cases hz : shelfError p on b g = 0
  · obtain ⟨hz1, hz2, hz3⟩ := shelfError_zero.1 hz
    have hbb := isBin_iff.1 hz2
    have hgg := isGood_iff.1 hz3
    obtain ⟨b', rfl⟩ : ∃ n : Nat, b = n := ⟨b.toNat, by omega⟩
    obtain ⟨g', rfl⟩ : ∃ n : Nat, g = n := ⟨g.toNat, by omega⟩
    have hcnt := right_counts (checkShelf_zero.1 hz1).1
    have hbl : b' < on.length := by rw [right_len hz1]; omega
    have hgl : g' < (rowAt on b').length := by rw [right_row hz1 hbl]; omega
    obtain ⟨q1, q2⟩ := right_cell hz1 hbl (show g' < p.sizes.length by omega)
    unfold cell at q1 q2
    obtain ⟨A', c', hok, hAb, hcu, hsu⟩ := (hO.up hbw hbw.size).row hbl
    obtain ⟨hok2, hAb2, b2⟩ := hsu.at_.int hgl
    clear hbb hgg hz2 hz3
    go_wp2_with fail
    go_quiet ((go_at_call 40; exact quiet_left (rWithin _ _ _ _)))
    have hbw1 := below_drewN hbw nq
    cases hin : within n (-(intAt (rowAt on b') g')) (200 - intAt (rowAt on b') g')
    · have hfin := Lib.hid (put_range hz hin)
      go_wp2_with fail
      go_ret2
      exact ⟨_, by rw [hfin.out]; rfl, by rw [hfin.out]; exact SlSl.nil, hbw1⟩
    · have hfin := Lib.hid (put_ok hz hin)
      obtain ⟨i1, i2⟩ := within_iff.1 hin
      go_wp2_with fail
      refine (rOwnOn _ _ on (hO.up hbw1 hbw1.size) (by rw [right_len hz1]; omega) (fun k hk => by rw [right_row hz1 hk]; omega)).mono ?_
      rintro e W2 ⟨u, rfl, ⟨gs, hu⟩, hb2⟩
      have hbw2 := hbw1.trans (hb2.mono hbw1.size)
      obtain ⟨go, co, gg, cg, rfl, f1, f2, f3, f4, f5, f6, f7, f8, f9, hset⟩ := hu.open_ hbl hgl (by decide)
      unfold cell at f2
      have hset' := Lib.hid hset
      clear hset
      go_wp2_with fail
      go_region
      go_wp2_with fail
      go_ret2
      refine ⟨_, by rw [hfin.out]; rfl, ?_, (hbw2.setCell (by have := hbw1.size; simp; omega) _).drew⟩
      rw [hfin.out]
      exact put_done hz1 (OwnOn.drew (hset'.out _))
  · have hfin := Lib.hid (put_err (n := n) hz)
    go_wp2_with fail
    go_ret2
    exact ⟨_, by rw [hfin.out]; rfl, by rw [hfin.out]; exact SlSl.nil, hbw⟩
end Wh
