/- shelf.Put, R.PutOf: walks -/
import Derived.Test.YteafeopekfhnnaaWalkK
namespace Wh
open Go Go.RowKit Go.Shelf Go.Proofs
attribute [local go_sem] run_indexAt_letter

def PutPost (p : Plan) (on : List (List Int)) (b g n : Int) (w : World) (e : Ending) (w' : World) : Prop :=
  ∃ u, e = .returned (.tuple #[u, .int .i64 (put p on b g n).2]) ∧ SlSl cInt w' w'.heap.size u (put p on b g n).1 ∧ Below w.heap.size w w'
theorem SlSl.nil {w : World} {B : Nat} : SlSl cInt w B (.slice none 0 0) [] := ⟨none, 0, [], rfl, by simp, rfl, At.nil, fun i x h => by simp at h⟩
theorem put_err {p : Plan} {on : List (List Int)} {b g n : Int} (h : shelfError p on b g ≠ 0) : put p on b g n = ([], shelfError p on b g) := by
  unfold put; rw [if_pos h]
theorem put_range {p : Plan} {on : List (List Int)} {b g : Nat} {n : Int} (h : shelfError p on b g = 0) (h2 : within n (-(intAt (rowAt on b) g)) (200 - intAt (rowAt on b) g) = false) : put p on b g n = ([], 3) := by
  unfold put cell; rw [if_neg (by simpa using h)]; simp only [Int.toNat_natCast, h2]; rfl
theorem put_ok {p : Plan} {on : List (List Int)} {b g : Nat} {n : Int} (h : shelfError p on b g = 0) (h2 : within n (-(intAt (rowAt on b) g)) (200 - intAt (rowAt on b) g) = true) : put p on b g n = (setCell on b g (intAt (rowAt on b) g + n), 0) := by
  unfold put cell; rw [if_neg (by simpa using h)]; simp only [Int.toNat_natCast, h2]; rfl
theorem put_done {E2 E1 : TypeId} {p : Plan} {on : List (List Int)} {b g : Nat} {m : Int} {w : World} {base : Nat} {u : Value} {gs : List Nat} (h : checkShelf p on = 0) (ho : OwnOn E2 E1 w base u (setCell on b g m) gs) : SlSl cInt w w.heap.size u (setCell on b g m) := by
  have hc := right_counts (checkShelf_zero.1 h).1
  refine ho.slsl (by rw [length_setCell, right_len h]; omega) fun x hx => ?_
  obtain ⟨i, hi, rfl⟩ := List.getElem_of_mem hx
  rw [← rowAt_eq hi, rowlen_setCell]
  rw [length_setCell] at hi
  rw [right_row h hi]
  omega

set_option maxHeartbeats 2000000 in
theorem shelfPut (w : World) (v vo : Value) (p : Plan) (on : List (List Int)) (b g n : Int) (hp : PlanV w w.heap.size v p) (ho : SlSl cInt w w.heap.size vo on) :
    Calls Try.prog 26 #[v, vo, .int .i64 b, .int .i64 g, .int .i64 n] w (PutPost p on b g n w) := by
  have hP := hp
  have hO := ho
  obtain ⟨_, _, rfl, ⟨Ab, cb, rfl, hlb, hb⟩, ⟨As, cs, rfl, hls, hs⟩⟩ := hp
  obtain ⟨A, c, vs, rfl, hl, hvl, hA, hrows⟩ := ho
  have hb0 : Below w.heap.size w (w.alloc (.cells #[.slice Ab p.bins.length cb, .slice As p.sizes.length cs] 25)) := (Below.refl _ _).alloc (Nat.le_refl _) _
  go_enter Try.func26, Try.ntmps26
  go_wp2_with fail
  refine (shelfAsked _ _ _ p on b g (hP.up hb0 hb0.size) (hO.up hb0 hb0.size)).mono ?_
  rintro e W1 ⟨rfl, hb1⟩
  have hbw := hb0.trans (hb1.mono (by simp))
  by_cases hz : shelfError p on b g = 0
  · obtain ⟨hz1, hz2, hz3⟩ := shelfError_zero.1 hz
    have hbb := isBin_iff.1 hz2
    have hgg := isGood_iff.1 hz3
    obtain ⟨b', rfl⟩ : ∃ n : Nat, b = n := ⟨b.toNat, by omega⟩
    obtain ⟨g', rfl⟩ : ∃ n : Nat, g = n := ⟨g.toNat, by omega⟩
    have hcnt := right_counts (checkShelf_zero.1 hz1).1
    have hbl : b' < on.length := by rw [right_len hz1]; omega
    have hgl : g' < (rowAt on b').length := by rw [right_row hz1 hbl]; omega
    obtain ⟨q1, q2⟩ := right_cell hz1 hbl (show g' < p.sizes.length by omega)
    unfold cell at q1 q2
    obtain ⟨A', c', hok, hAb, hcu, hsu⟩ := (hO.up hbw hbw.size).row hbl
    obtain ⟨hok2, hAb2, b2⟩ := hsu.at_.int hgl
    clear hbb hgg hz2 hz3
    by_cases hlo : n < -(intAt (rowAt on b') g')
    · have hfin := Lib.hid (put_range hz (n := n) (by rw [within_false]; omega))
      go_wp2_with fail
      go_ret2
      exact ⟨_, by rw [hfin.out]; rfl, by rw [hfin.out]; exact SlSl.nil, hbw⟩
    · by_cases hhi : 200 - intAt (rowAt on b') g' < n
      · have hfin := Lib.hid (put_range hz (n := n) (by rw [within_false]; omega))
        go_wp2_with fail
        go_ret2
        exact ⟨_, by rw [hfin.out]; rfl, by rw [hfin.out]; exact SlSl.nil, hbw⟩
      · have hfin := Lib.hid (put_ok hz (n := n) (by rw [within_iff]; omega))
        go_wp2_with fail
        refine (shelfOwn _ _ on (hO.up hbw hbw.size) (by rw [right_len hz1]; omega) (fun k hk => by rw [right_row hz1 hk]; omega)).mono ?_
        rintro e W2 ⟨u, rfl, ⟨gs, hu⟩, hb2⟩
        have hbw2 := hbw.trans (hb2.mono hbw.size)
        obtain ⟨go, co, gg, cg, rfl, f1, f2, f3, f4, f5, f6, f7, f8, f9, hset⟩ := hu.open_ hbl hgl (by decide)
        unfold cell at f2
        have hset' := Lib.hid hset
        clear hset
        go_wp2_with fail
        go_ret2
        refine ⟨_, by rw [hfin.out]; rfl, ?_, hbw2.setCell (by have := hbw.size; simp; omega) _⟩
        rw [hfin.out]
        exact put_done hz1 (hset'.out _)
  · have hfin := Lib.hid (put_err (n := n) hz)
    go_wp2_with fail
    go_ret2
    exact ⟨_, by rw [hfin.out]; rfl, by rw [hfin.out]; exact SlSl.nil, hbw⟩
end Wh
