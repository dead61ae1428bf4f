/- shelves: Check, the errors, what is used, the sums: walks -/
import Derived.Test.YteafeopekfhnnaaWalkE
namespace Wh
open Go Go.RowKit Go.Shelf Go.Proofs
attribute [local go_sem] run_indexAt_letter

set_option maxHeartbeats 1000000 in
theorem shelfCheck (w : World) (v vo : Value) (p : Plan) (on : List (List Int)) (hp : PlanV w w.heap.size v p) (ho : SlSl cInt w w.heap.size vo on) :
    Calls Try.prog 24 #[v, vo] w fun e w' => e = .returned (.int .i64 (checkShelf p on)) ∧ Below w.heap.size w w' := by
  have hP := hp
  have hO := ho
  obtain ⟨_, _, rfl, ⟨Ab, cb, rfl, hlb, hb⟩, ⟨As, cs, rfl, hls, hs⟩⟩ := hp
  obtain ⟨A, c, vs, rfl, hl, hvl, hA, hrows⟩ := ho
  have hb0 : Below w.heap.size w (w.alloc (.cells #[.slice Ab p.bins.length cb, .slice As p.sizes.length cs] 25)) := (Below.refl _ _).alloc (Nat.le_refl _) _
  go_enter Try.func24, Try.ntmps24
  go_wp2_with fail
  refine (planCheck _ _ p (hP.up hb0 hb0.size)).mono ?_
  rintro e W1 ⟨rfl, hb1⟩
  have hbw := hb0.trans (hb1.mono (by simp))
  have hsz := hb1.size
  obtain ⟨hc1, hf1⟩ := bcell hb1
  by_cases hz : checkPlan p = 0
  · have hz' := checkPlan_zero.1 hz
    have hpos : 0 < p.sizes.length := hz'.2.1.1
    have hcell : W1.cell? ⟨w.heap.size, 1, none⟩ = some (.slice As p.sizes.length cs) := by rw [hc1 _ _ (by simp)]; simp
    by_cases hlen : on.length = p.bins.length
    · have hle1 := Nat.le_of_eq hlen
      have hle2 := Nat.le_of_eq hlen.symm
      have hlen' := Lib.hid hlen
      clear hlen
      go_wp2_with fail
      refine (containsFuncRow _ _ on 50 #[.pointer (some ⟨w.heap.size, 0, none⟩)] (fun r => !rowOk p r) entersShelfBad (hO.up hbw hbw.size) (fun k _ W hW u hu =>
        shelfBad p (rowAt on k) W w.heap.size u hpos As cs ((hW.cell (p := ⟨w.heap.size, 1, none⟩) (by simp at hsz ⊢; omega)).trans hcell) hu)).mono ?_
      rintro e W2 ⟨rfl, hb2⟩
      have hbw2 := hbw.trans (hb2.mono hbw.size)
      cases hbad : (on.any fun r => !rowOk p r)
      · go_wp2_with fail
        go_ret
        exact ⟨ret_int (checkShelf_good hz hlen'.out hbad).symm, hbw2⟩
      · go_wp2_with fail
        go_ret
        exact ⟨ret_int (checkShelf_bad hz hbad).symm, hbw2⟩
    · have hno := checkShelf_len hz hlen
      go_wp2_with fail
      go_ret
      exact ⟨ret_int hno.symm, hbw⟩
  · have hno := checkShelf_plan (on := on) hz
    go_wp2_with fail
    go_ret
    exact ⟨ret_int hno.symm, hbw⟩

set_option maxHeartbeats 1000000 in
theorem rCheckShelf (w : World) (v vo : Value) (p : Plan) (on : List (List Int)) (hp : PlanV w w.heap.size v p) (ho : SlSl cInt w w.heap.size vo on) :
    Calls Try.prog 25 #[v, vo] w fun e w' => e = .returned (.int .i64 (checkShelf p on)) ∧ Below w.heap.size w w' := by
  have hP := hp
  have hO := ho
  obtain ⟨_, _, rfl, ⟨Ab, cb, rfl, hlb, hb⟩, ⟨As, cs, rfl, hls, hs⟩⟩ := hp
  obtain ⟨A, c, vs, rfl, hl, hvl, hA, hrows⟩ := ho
  have hb0 : Below w.heap.size w (w.alloc (.cells #[.slice Ab p.bins.length cb, .slice As p.sizes.length cs] 25)) := (Below.refl _ _).alloc (Nat.le_refl _) _
  go_enter Try.func25, Try.ntmps25
  go_wp2_with fail
  refine (rCheckPlan _ _ p (hP.up hb0 hb0.size)).mono ?_
  rintro e W1 ⟨rfl, hb1⟩
  have hbw := hb0.trans (hb1.mono (by simp))
  have hsz := hb1.size
  obtain ⟨hc1, hf1⟩ := bcell hb1
  by_cases hz : checkPlan p = 0
  · have hz' := checkPlan_zero.1 hz
    have hpos : 0 < p.sizes.length := hz'.2.1.1
    by_cases hlen : on.length = p.bins.length
    · have hle1 := Nat.le_of_eq hlen
      have hle2 := Nat.le_of_eq hlen.symm
      have hlen' := Lib.hid hlen
      have hnb : ((on.length : Int) != (p.bins.length : Int)) = false := by rw [hlen]; simp
      have hcell0 : W1.cell? ⟨w.heap.size, 0, none⟩ = some (.slice Ab p.bins.length cb) := by rw [hc1 _ _ (by simp)]; simp
      have hcell1 : W1.cell? ⟨w.heap.size, 1, none⟩ = some (.slice As p.sizes.length cs) := by rw [hc1 _ _ (by simp)]; simp
      have hsz1 : w.heap.size < W1.heap.size := by simp at hsz; omega
      clear hlen hc1 hf1 hsz hb1 hz'
      have hzz := Lib.hid hz
      go_wp2_with fail
      clear hz
      go_loopw [6] (fun i wr => ∃ k : Nat, k ≤ on.length ∧ i = .int .i64 k ∧ (∀ j, j < k → rowOk p (rowAt on j) = true) ∧ Below w.heap.size w wr ∧ w.heap.size < wr.heap.size ∧ wr.cell? ⟨w.heap.size, 1, none⟩ = some (.slice As p.sizes.length cs)) (fun i _ => on.length - (intOf i).toNat)
      case atStart => exact ⟨0, Nat.zero_le _, rfl, fun j hj => by omega, hbw, hsz1, hcell1⟩
      case round =>
        obtain ⟨k, hk, rfl, hall, hbr, hszr, hcr⟩ := hrel
        by_cases hlt : k < on.length
        · obtain ⟨A', c', hok, hAb, hcu, hsu⟩ := (hO.up hbr hbr.size).row hlt
          have hA2 := hsu.at_
          by_cases hrl : (rowAt on k).length = p.sizes.length
          · have hr1 := Nat.le_of_eq hrl
            have hr2 := Nat.le_of_eq hrl.symm
            have hrl' := Lib.hid hrl
            have hnr : (((rowAt on k).length : Int) != (p.sizes.length : Int)) = false := by rw [hrl]; simp
            clear hrl
            go_wp2_with fail
            go_quiet (fail)
            go_wp2_with fail
            have hA3 := hA2.up (below_drewN (Below.refl _ _) nq) (Nat.le_refl _)
            go_loop [7] (fun i => ∃ j : Nat, j ≤ (rowAt on k).length ∧ i = .int .i64 j ∧ (∀ m, m < j → within (intAt (rowAt on k) m) 0 200 = true)) (fun i => (rowAt on k).length - (intOf i).toNat)
            case atStart => exact ⟨0, Nat.zero_le _, rfl, fun j hj => by omega⟩
            case round =>
              obtain ⟨j, hj, rfl, hall2⟩ := hrel
              by_cases hjt : j < (rowAt on k).length
              · obtain ⟨hok2, hAb2, b2⟩ := hA3.int hjt
                cases g1 : within (intAt (rowAt on k) j) 0 200
                · have hfin := Lib.hid (checkShelf_row hzz.out hlt (rowOk_cell hjt g1))
                  go_wp2_with (go_at_call 40; refine (rWithin _ _ _ _).mono ?_; rintro e w' ⟨rfl, rfl⟩)
                  go_ret
                  exact ⟨ret_int hfin.out.symm, below_drewN hbr _⟩
                · go_wp2_with (go_at_call 40; refine (rWithin _ _ _ _).mono ?_; rintro e w' ⟨rfl, rfl⟩)
                  go_round
                  case rel =>
                    refine ⟨j + 1, by omega, by go_num, fun m hm => ?_⟩
                    rcases Nat.lt_succ_iff_lt_or_eq.1 hm with h | rfl
                    · exact hall2 m h
                    · exact g1
                  case measure => simp [intOf]; omega
              · obtain rfl : j = (rowAt on k).length := by omega
                have hrow := rowOk_all hrl'.out hall2
                go_wp2_with fail
                go_roundw
                case rel =>
                  refine ⟨k + 1, by omega, by go_num, fun m hm => ?_, below_drewN hbr _, hszr, hcr⟩
                  rcases Nat.lt_succ_iff_lt_or_eq.1 hm with h | rfl
                  · exact hall m h
                  · exact hrow
                case measure => simp [intOf]; omega
          · have hno : rowOk p (rowAt on k) = false := by unfold rowOk; simp [hrl]
            have hfin := Lib.hid (checkShelf_row hzz.out hlt hno)
            go_wp2_with fail
            go_quiet (fail)
            go_wp2_with fail
            go_ret
            exact ⟨ret_int hfin.out.symm, below_drewN hbr _⟩
        · obtain rfl : k = on.length := by omega
          have hfin := Lib.hid (checkShelf_all hzz.out hlen'.out hall)
          go_wp2_with fail
          go_ret
          exact ⟨ret_int hfin.out.symm, hbr⟩
    · have hno := checkShelf_len hz hlen
      go_wp2_with fail
      go_ret
      exact ⟨ret_int hno.symm, hbw⟩
  · have hno := checkShelf_plan (on := on) hz
    go_wp2_with fail
    go_ret
    exact ⟨ret_int hno.symm, hbw⟩
end Wh
