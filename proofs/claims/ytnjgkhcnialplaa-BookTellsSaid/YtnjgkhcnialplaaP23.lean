/- Texts of the claim, joined: WalkL, WalkM, WalkN. -/
import Derived.Test.YtnjgkhcnialplaaP18
namespace Wh
open Go Go.RowKit Go.Shelf Go.Proofs
attribute [local go_sem] run_indexAt_letter

def PutPost (p : Plan) (on : List (List Int)) (b g n : Int) (w : World) (e : Ending) (w' : World) : Prop :=
  ∃ u, e = .returned (.tuple #[u, .int .i64 (put p on b g n).2]) ∧ SlSl cInt w' w'.heap.size u (put p on b g n).1 ∧ Below w.heap.size w w'
theorem SlSl.nil {w : World} {B : Nat} : SlSl cInt w B (.slice none 0 0) [] := ⟨none, 0, [], rfl, by simp, rfl, At.nil, fun i x h => by simp at h⟩
theorem put_err {p : Plan} {on : List (List Int)} {b g n : Int} (h : shelfError p on b g ≠ 0) : put p on b g n = ([], shelfError p on b g) := by
  unfold put; rw [if_pos h]
theorem put_range {p : Plan} {on : List (List Int)} {b g : Nat} {n : Int} (h : shelfError p on b g = 0) (h2 : within n (-(intAt (rowAt on b) g)) (200 - intAt (rowAt on b) g) = false) : put p on b g n = ([], 3) := by
  unfold put cell; rw [if_neg (by simpa using h)]; simp only [Int.toNat_natCast, h2]; rfl
theorem put_ok {p : Plan} {on : List (List Int)} {b g : Nat} {n : Int} (h : shelfError p on b g = 0) (h2 : within n (-(intAt (rowAt on b) g)) (200 - intAt (rowAt on b) g) = true) : put p on b g n = (setCell on b g (intAt (rowAt on b) g + n), 0) := by
  unfold put cell; rw [if_neg (by simpa using h)]; simp only [Int.toNat_natCast, h2]; rfl
theorem put_done {E2 E1 : TypeId} {p : Plan} {on : List (List Int)} {b g : Nat} {m : Int} {w : World} {base : Nat} {u : Value} {gs : List Nat} (h : checkShelf p on = 0) (ho : OwnOn E2 E1 w base u (setCell on b g m) gs) : SlSl cInt w w.heap.size u (setCell on b g m) := by
  have hc := right_counts (checkShelf_zero.1 h).1
  refine ho.slsl (by rw [length_setCell, right_len h]; omega) fun x hx => ?_
  obtain ⟨i, hi, rfl⟩ := List.getElem_of_mem hx
  rw [← rowAt_eq hi, rowlen_setCell]
  rw [length_setCell] at hi
  rw [right_row h hi]
  omega

end Wh
namespace Wh
open Go Go.RowKit Go.Shelf Go.Proofs
attribute [local go_sem] run_indexAt_letter

end Wh
namespace Wh
open Go Go.RowKit Go.Shelf Go.Proofs
attribute [local go_sem] run_indexAt_letter

set_option maxHeartbeats 1000000 in
theorem lYard (w : World) : Calls Try.prog 50 #[] w (Gives (fun u w' => PlanV w' w'.heap.size u yardP) w) := by
  go_enter Try.func50, Try.ntmps50
  go_wp2_with fail
  refine bodyPost_ret (v := .agg #[.slice (some ⟨w.heap.size + 1, 0, none⟩) 3 3, .slice (some ⟨w.heap.size + 1 + 1, 0, none⟩) 2 2]) (by simp [results, Try.results50, go_sem]) rfl ?_
  have b1 := Own.lit (base := 0) (enc := cBin) (size := 4) (w.alloc (.cells #[.slice (some ⟨w.heap.size + 1, 0, none⟩) 3 3, .slice (some ⟨w.heap.size + 1 + 1, 0, none⟩) 2 2] 25)) 59
    #[.bool false, .int .i64 100, .int .i64 0, .int .i64 0, .bool true, .int .i64 30, .int .i64 4, .int .i64 8, .bool false, .int .i64 60, .int .i64 0, .int .i64 0] yardP.bins (Nat.zero_le _) (by decide) (fun _ => rfl) rfl
  have b2 := b1.alloc (.cells #[.int .i64 2, .int .i64 3] 3)
  have b3 := Own.lit (base := 0) (enc := cInt) (size := 1) ((w.alloc (.cells #[.slice (some ⟨w.heap.size + 1, 0, none⟩) 3 3, .slice (some ⟨w.heap.size + 1 + 1, 0, none⟩) 2 2] 25)).alloc
    (.cells #[.bool false, .int .i64 100, .int .i64 0, .int .i64 0, .bool true, .int .i64 30, .int .i64 4, .int .i64 8, .bool false, .int .i64 60, .int .i64 0, .int .i64 0] 59)) 3 #[.int .i64 2, .int .i64 3] yardP.sizes (Nat.zero_le _) (by decide) (fun _ => rfl) rfl
  simp only [World.size_alloc] at b2 b3
  exact ⟨_, rfl, ⟨_, _, rfl, b2.sl (by decide), b3.sl (by decide)⟩, (((Below.refl _ _).alloc (Nat.le_refl _) _).alloc (by simp) _).alloc (by simp; omega) _⟩

set_option maxHeartbeats 1000000 in
theorem rSameInts (w : World) (va vb : Value) (a b : List Int) (ha : Sl cInt w w.heap.size va a) (hb : Sl cInt w w.heap.size vb b) :
    Calls Try.prog 59 #[va, vb] w fun e w' => e = .returned (.bool (decide (a = b))) ∧ Below w.heap.size w w' := by
  obtain ⟨A, c, rfl, hl, hA⟩ := ha
  obtain ⟨B, d, rfl, hl2, hB⟩ := hb
  go_enter Try.func59, Try.ntmps59
  by_cases hlen : a.length = b.length
  · have hnb : ((a.length : Int) != (b.length : Int)) = false := by rw [hlen]; simp
    have hle1 := Nat.le_of_eq hlen
    have hle2 := Nat.le_of_eq hlen.symm
    have hlen' := Lib.hid hlen
    clear hlen
    go_wp2_with fail
    go_loopw [5] (fun i wr => ∃ k : Nat, k ≤ a.length ∧ i = .int .i64 k ∧ (∀ j, j < k → intAt a j = intAt b j) ∧ Below w.heap.size w wr) (fun i _ => a.length - (intOf i).toNat)
    case atStart => exact ⟨0, Nat.zero_le _, rfl, fun j hj => by omega, Below.refl _ _⟩
    case round =>
      obtain ⟨k, hk, rfl, hall, hbw⟩ := hrel
      have hall' := Lib.hid hall
      clear hall
      by_cases hlt : k < a.length
      · have hlt2 : k < b.length := by omega
        obtain ⟨o1, o2, o3⟩ := (hA.up hbw hbw.size).int hlt
        obtain ⟨p1, p2, p3⟩ := (hB.up hbw hbw.size).int hlt2
        by_cases he : intAt a k = intAt b k
        · have heb : (intAt a k != intAt b k) = false := by rw [he]; simp
          have he' := Lib.hid he
          clear he
          go_wp2_with fail
          go_quiet (fail)
          go_wp2_with fail
          go_roundw
          case rel =>
            refine ⟨k + 1, by omega, by go_num, fun j hj => ?_, below_drewN hbw _⟩
            rcases Nat.lt_succ_iff_lt_or_eq.1 hj with h | rfl
            · exact hall'.out j h
            · exact he'.out
          case measure => simp [intOf]; omega
        · have heb : (intAt a k != intAt b k) = true := by simp [he]
          have hne := Lib.hid (show a ≠ b from fun e => he (by rw [e]))
          go_wp2_with fail
          go_quiet (fail)
          go_wp2_with fail
          go_ret
          exact ⟨ret_bool (by rw [decide_eq_false hne.out]), below_drewN hbw _⟩
      · obtain rfl : k = a.length := by omega
        have heq : a = b := List.ext_getElem hlen'.out fun i h1 h2 => by rw [← intAt_eq h1, ← intAt_eq h2]; exact hall'.out i h1
        have heq' := Lib.hid heq
        clear heq
        go_wp2_with fail
        go_ret
        exact ⟨ret_bool (by rw [decide_eq_true heq'.out]), hbw⟩
  · have hne := Lib.hid (show a ≠ b from fun e => hlen (by rw [e]))
    have hnb : ((a.length : Int) != (b.length : Int)) = true := by simp; omega
    go_wp2_with fail
    go_ret
    exact ⟨ret_bool (by rw [decide_eq_false hne.out]), Below.refl _ _⟩

set_option maxHeartbeats 1000000 in
theorem rSameRows (w : World) (va vb : Value) (a b : List (List Int)) (ha : SlSl cInt w w.heap.size va a) (hb : SlSl cInt w w.heap.size vb b) :
    Calls Try.prog 42 #[va, vb] w fun e w' => e = .returned (.bool (decide (a = b))) ∧ Below w.heap.size w w' := by
  have hA := ha
  have hB := hb
  obtain ⟨A, c, vs, rfl, hl, hvl, hAt, hrows⟩ := ha
  obtain ⟨B, d, us, rfl, hl2, hul, hBt, hrows2⟩ := hb
  go_enter Try.func42, Try.ntmps42
  by_cases hlen : a.length = b.length
  · have hnb : ((a.length : Int) != (b.length : Int)) = false := by rw [hlen]; simp
    have hle1 := Nat.le_of_eq hlen
    have hle2 := Nat.le_of_eq hlen.symm
    have hlen' := Lib.hid hlen
    clear hlen
    go_wp2_with fail
    go_loopw [5] (fun i wr => ∃ k : Nat, k ≤ a.length ∧ i = .int .i64 k ∧ (∀ j, j < k → rowAt a j = rowAt b j) ∧ Below w.heap.size w wr) (fun i _ => a.length - (intOf i).toNat)
    case atStart => exact ⟨0, Nat.zero_le _, rfl, fun j hj => by omega, Below.refl _ _⟩
    case round =>
      obtain ⟨k, hk, rfl, hall, hbw⟩ := hrel
      have hall' := Lib.hid hall
      clear hall
      by_cases hlt : k < a.length
      · have hlt2 : k < b.length := by omega
        obtain ⟨A1, c1, o1, o2, o3, hs1⟩ := (hA.up hbw hbw.size).row hlt
        obtain ⟨B1, d1, p1, p2, p3, hs2⟩ := (hB.up hbw hbw.size).row hlt2
        go_wp2_with fail
        obtain ⟨r, hr⟩ : ∃ r, decide (rowAt a k = rowAt b k) = r := ⟨_, rfl⟩
        have hc := fun (W : World) (h1 : Sl cInt W W.heap.size (.slice A1 (rowAt a k).length c1) (rowAt a k)) (h2 : Sl cInt W W.heap.size (.slice B1 (rowAt b k).length d1) (rowAt b k)) => rSameInts W _ _ _ _ h1 h2
        simp only [hr] at hc
        have hr' := Lib.hid hr
        have hc' := Lib.hid hc
        clear hr hc
        cases r
        · have hne := Lib.hid (show a ≠ b from fun e => by have := hr'.out; rw [e] at this; simp at this)
          go_region_with (go_at_call 59; refine (hc'.out _ hs1.drew hs2.drew).mono ?_; rintro e W1 ⟨rfl, hb1⟩)
          all_goals
            have hbw1 := hbw.drew.trans (hb1.mono hbw.size)
            go_wp2_with fail
            go_ret
            exact ⟨ret_bool (by rw [decide_eq_false hne.out]), hbw1⟩
        · have he' := Lib.hid (of_decide_eq_true hr'.out)
          go_region_with (go_at_call 59; refine (hc'.out _ hs1.drew hs2.drew).mono ?_; rintro e W1 ⟨rfl, hb1⟩)
          all_goals
            have hbw1 := hbw.drew.trans (hb1.mono hbw.size)
            go_wp2_with fail
            go_roundw
            case rel =>
              refine ⟨k + 1, by omega, by go_num, fun j hj => ?_, hbw1⟩
              rcases Nat.lt_succ_iff_lt_or_eq.1 hj with h | rfl
              · exact hall'.out j h
              · exact he'.out
            case measure => simp [intOf]; omega
      · obtain rfl : k = a.length := by omega
        have heq : a = b := List.ext_getElem hlen'.out fun i h1 h2 => by rw [← rowAt_eq h1, ← rowAt_eq h2]; exact hall'.out i h1
        have heq' := Lib.hid heq
        clear heq
        go_wp2_with fail
        go_ret
        exact ⟨ret_bool (by rw [decide_eq_true heq'.out]), hbw⟩
  · have hne := Lib.hid (show a ≠ b from fun e => hlen (by rw [e]))
    have hnb : ((a.length : Int) != (b.length : Int)) = true := by simp; omega
    go_wp2_with fail
    go_ret
    exact ⟨ret_bool (by rw [decide_eq_false hne.out]), Below.refl _ _⟩
end Wh
