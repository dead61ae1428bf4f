/- ShelfTells: the law's walk -/
import Derived.Test.YteafeopekfhnnaaWalkO
import Derived.Deep.RegionHeld3
namespace Wh
open Go Go.RowKit Go.Shelf Go.Proofs
attribute [local go_sem] run_indexAt_letter

theorem box2 {w W : World} {a b : Value} {T : TypeId} (h : Below (w.alloc (.cells #[a, b] T)).heap.size (w.alloc (.cells #[a, b] T)) W) :
    W.cell? ⟨w.heap.size, 0, none⟩ = some a ∧ W.cell? ⟨w.heap.size, 1, none⟩ = some b :=
  ⟨(h.cell (p := ⟨w.heap.size, 0, none⟩) (by simp)).trans (by simp), (h.cell (p := ⟨w.heap.size, 1, none⟩) (by simp)).trans (by simp)⟩

set_option maxHeartbeats 2000000 in
theorem shelfTellsWalk (w : World) (v vo : Value) (p : Plan) (on : List (List Int)) (b g : Int) (hp : PlanV w w.heap.size v p) (ho : SlSl cInt w w.heap.size vo on) :
    Calls Try.prog 5 #[v, vo, .int .i64 b, .int .i64 g] w fun e w' => e = .returned (.bool true) ∧ Below w.heap.size w w' := by
  have hP := hp
  have hO := ho
  obtain ⟨_, _, rfl, ⟨Ab, cb, rfl, hlb, hb⟩, ⟨As, cs, rfl, hls, hs⟩⟩ := hp
  obtain ⟨A, c, vs, rfl, hl, hvl, hA, hrows⟩ := ho
  have hb0 : Below w.heap.size w (w.alloc (.cells #[.slice Ab p.bins.length cb, .slice As p.sizes.length cs] 25)) := (Below.refl _ _).alloc (Nat.le_refl _) _
  have hs0 : ∀ x y, shelfError p on x y = 0 → checkShelf p on = 0 ∧ (0 ≤ x ∧ x < p.bins.length) ∧ 0 ≤ y ∧ y < p.sizes.length := fun x y h => by
    obtain ⟨h1, h2, h3⟩ := shelfError_zero.1 h
    exact ⟨h1, isBin_iff.1 h2, isGood_iff.1 h3⟩
  have hs0' := Lib.hid hs0
  clear hs0
  go_enter Try.func5, Try.ntmps5
  go_wp2_with fail
  refine (shelfUsed _ _ _ p on b (hP.grow hb0) (hO.grow hb0)).mono ?_
  rintro e W1 ⟨rfl, hb1⟩
  have hA1 := hb1
  have hb01 := hb0.trans (hA1.mono hb0.size)
  obtain ⟨hc1, hf1⟩ := bcell hA1
  go_wp2_with fail
  refine (shelfSum _ _ _ p on g (hP.grow hb01) (hO.grow hb01)).mono ?_
  rintro e W2 ⟨rfl, hb2⟩
  have hA2 := hA1.trans (hb2.mono hA1.size)
  have hb02 := hb0.trans (hA2.mono hb0.size)
  obtain ⟨hc2, hf2⟩ := bcell hA2
  go_wp2_with fail
  refine (rShelfError _ _ _ p on b 0 (hP.grow hb02) (hO.grow hb02)).mono ?_
  rintro e W3 ⟨rfl, hb3⟩
  have hA3 := hA2.trans (hb3.mono hA2.size)
  have hb03 := hb0.trans (hA3.mono hb0.size)
  obtain ⟨hc3, hf3⟩ := bcell hA3
  go_wp2_with fail
  refine (rShelfError _ _ _ p on 0 g (hP.grow hb03) (hO.grow hb03)).mono ?_
  rintro e W4 ⟨rfl, hb4⟩
  have hA4 := hA3.trans (hb4.mono hA3.size)
  have hb04 := hb0.trans (hA4.mono hb0.size)
  obtain ⟨hc4, hf4⟩ := bcell hA4
  by_cases hw : shelfError p on b 0 = 0
  · obtain ⟨hz, hbb, _⟩ := hs0'.out _ _ hw
    obtain ⟨b, rfl⟩ := Int.eq_ofNat_of_zero_le hbb.1
    have hu : usedE p on b = usedOf p on b := by unfold usedE; rw [if_pos hw]; rfl
    by_cases hv : shelfError p on 0 g = 0
    · obtain ⟨_, _, hgg⟩ := hs0'.out _ _ hv
      obtain ⟨g, rfl⟩ := Int.eq_ofNat_of_zero_le hgg.1
      have hm : sumE p on g = sumOf on g := by unfold sumE; rw [if_pos hv]; rfl
      go_wp2_with fail
      refine (rUsedOf _ _ _ p on b (hP.grow hb04) (hO.grow hb04) hz (by omega)).mono ?_
      rintro e W5 ⟨rfl, hb5⟩
      have hA5 := hA4.trans (hb5.mono hA4.size)
      have hb05 := hb0.trans (hA5.mono hb0.size)
      obtain ⟨hc5, hf5⟩ := bcell hA5
      go_wp2_with fail
      refine (rSumOf _ _ p on g (hO.grow hb05) hz (by omega)).mono ?_
      rintro e W6 ⟨rfl, rfl⟩
      have hA6 := hA5
      have hb06 := hb05
      go_wp2_with fail
      have hAd := hA6.drew
      have hbd := hb06.drew
      obtain ⟨z1, z2⟩ := box2 hA6
      go_region_held3 (fun w' => w'.cell? ⟨w.heap.size, 0, none⟩ = some (.slice Ab p.bins.length cb) ∧ w'.cell? ⟨w.heap.size, 1, none⟩ = some (.slice As p.sizes.length cs)) (exact ⟨z1, z2⟩)
        (first
        | (go_at_call 23; refine (shelfBegun _).mono ?_; rintro e Y1 ⟨rfl, hy1⟩; have hAx := hAd.trans (hy1.mono hAd.size); have hbx := hb0.trans (hAx.mono hb0.size); obtain ⟨z1, z2⟩ := box2 hAx)
        | (go_at_call 24; refine (shelfCheck _ _ _ p on (hP.grow hbx) (hO.grow hbx)).mono ?_; rintro e Y2 ⟨rfl, hy2⟩; have hAy := hAx.trans (hy2.mono hAx.size); have hby := hb0.trans (hAy.mono hb0.size); obtain ⟨z1, z2⟩ := box2 hAy)
        | (go_at_call 25; refine (rCheckShelf _ _ _ p on (hP.grow hby) (hO.grow hby)).mono ?_; rintro e Y3 ⟨rfl, hy3⟩; have hAz := hAy.trans (hy3.mono hAy.size); have hbz := hb0.trans (hAz.mono hb0.size); obtain ⟨z1, z2⟩ := box2 hAz))
      all_goals
        go_wp2_with fail
        go_ret
        exact ⟨by simp [*], hbz⟩
    · have hm : sumE p on g = 0 := by unfold sumE; rw [if_neg hv]
      have hvb : (shelfError p on 0 g == 0) = false := by simpa using hv
      go_wp2_with fail
      refine (rUsedOf _ _ _ p on b (hP.grow hb04) (hO.grow hb04) hz (by omega)).mono ?_
      rintro e W5 ⟨rfl, hb5⟩
      have hA5 := hA4.trans (hb5.mono hA4.size)
      have hb05 := hb0.trans (hA5.mono hb0.size)
      obtain ⟨hc5, hf5⟩ := bcell hA5
      go_wp2_with fail
      have hAd := hA5.drew
      have hbd := hb05.drew
      obtain ⟨z1, z2⟩ := box2 hA5
      go_region_held3 (fun w' => w'.cell? ⟨w.heap.size, 0, none⟩ = some (.slice Ab p.bins.length cb) ∧ w'.cell? ⟨w.heap.size, 1, none⟩ = some (.slice As p.sizes.length cs)) (exact ⟨z1, z2⟩)
        (first
        | (go_at_call 23; refine (shelfBegun _).mono ?_; rintro e Y1 ⟨rfl, hy1⟩; have hAx := hAd.trans (hy1.mono hAd.size); have hbx := hb0.trans (hAx.mono hb0.size); obtain ⟨z1, z2⟩ := box2 hAx)
        | (go_at_call 24; refine (shelfCheck _ _ _ p on (hP.grow hbx) (hO.grow hbx)).mono ?_; rintro e Y2 ⟨rfl, hy2⟩; have hAy := hAx.trans (hy2.mono hAx.size); have hby := hb0.trans (hAy.mono hb0.size); obtain ⟨z1, z2⟩ := box2 hAy)
        | (go_at_call 25; refine (rCheckShelf _ _ _ p on (hP.grow hby) (hO.grow hby)).mono ?_; rintro e Y3 ⟨rfl, hy3⟩; have hAz := hAy.trans (hy3.mono hAy.size); have hbz := hb0.trans (hAz.mono hb0.size); obtain ⟨z1, z2⟩ := box2 hAz))
      all_goals
        go_wp2_with fail
        go_ret
        exact ⟨by simp [*], hbz⟩
  · have hu : usedE p on b = 0 := by unfold usedE; rw [if_neg hw]
    have hwb : (shelfError p on b 0 == 0) = false := by simpa using hw
    by_cases hv : shelfError p on 0 g = 0
    · obtain ⟨hz, _, hgg⟩ := hs0'.out _ _ hv
      obtain ⟨g, rfl⟩ := Int.eq_ofNat_of_zero_le hgg.1
      have hm : sumE p on g = sumOf on g := by unfold sumE; rw [if_pos hv]; rfl
      go_wp2_with fail
      refine (rSumOf _ _ p on g (hO.grow hb04) hz (by omega)).mono ?_
      rintro e W5 ⟨rfl, rfl⟩
      have hA5 := hA4
      have hb05 := hb04
      go_wp2_with fail
      have hAd := hA5.drew
      have hbd := hb05.drew
      obtain ⟨z1, z2⟩ := box2 hA5
      go_region_held3 (fun w' => w'.cell? ⟨w.heap.size, 0, none⟩ = some (.slice Ab p.bins.length cb) ∧ w'.cell? ⟨w.heap.size, 1, none⟩ = some (.slice As p.sizes.length cs)) (exact ⟨z1, z2⟩)
        (first
        | (go_at_call 23; refine (shelfBegun _).mono ?_; rintro e Y1 ⟨rfl, hy1⟩; have hAx := hAd.trans (hy1.mono hAd.size); have hbx := hb0.trans (hAx.mono hb0.size); obtain ⟨z1, z2⟩ := box2 hAx)
        | (go_at_call 24; refine (shelfCheck _ _ _ p on (hP.grow hbx) (hO.grow hbx)).mono ?_; rintro e Y2 ⟨rfl, hy2⟩; have hAy := hAx.trans (hy2.mono hAx.size); have hby := hb0.trans (hAy.mono hb0.size); obtain ⟨z1, z2⟩ := box2 hAy)
        | (go_at_call 25; refine (rCheckShelf _ _ _ p on (hP.grow hby) (hO.grow hby)).mono ?_; rintro e Y3 ⟨rfl, hy3⟩; have hAz := hAy.trans (hy3.mono hAy.size); have hbz := hb0.trans (hAz.mono hb0.size); obtain ⟨z1, z2⟩ := box2 hAz))
      all_goals
        go_wp2_with fail
        go_ret
        exact ⟨by simp [*], hbz⟩
    · have hm : sumE p on g = 0 := by unfold sumE; rw [if_neg hv]
      have hvb : (shelfError p on 0 g == 0) = false := by simpa using hv
      go_wp2_with fail
      have hAd := hA4.drew
      have hbd := hb04.drew
      obtain ⟨z1, z2⟩ := box2 hA4
      go_region_held3 (fun w' => w'.cell? ⟨w.heap.size, 0, none⟩ = some (.slice Ab p.bins.length cb) ∧ w'.cell? ⟨w.heap.size, 1, none⟩ = some (.slice As p.sizes.length cs)) (exact ⟨z1, z2⟩)
        (first
        | (go_at_call 23; refine (shelfBegun _).mono ?_; rintro e Y1 ⟨rfl, hy1⟩; have hAx := hAd.trans (hy1.mono hAd.size); have hbx := hb0.trans (hAx.mono hb0.size); obtain ⟨z1, z2⟩ := box2 hAx)
        | (go_at_call 24; refine (shelfCheck _ _ _ p on (hP.grow hbx) (hO.grow hbx)).mono ?_; rintro e Y2 ⟨rfl, hy2⟩; have hAy := hAx.trans (hy2.mono hAx.size); have hby := hb0.trans (hAy.mono hb0.size); obtain ⟨z1, z2⟩ := box2 hAy)
        | (go_at_call 25; refine (rCheckShelf _ _ _ p on (hP.grow hby) (hO.grow hby)).mono ?_; rintro e Y3 ⟨rfl, hy3⟩; have hAz := hAy.trans (hy3.mono hAy.size); have hbz := hb0.trans (hAz.mono hb0.size); obtain ⟨z1, z2⟩ := box2 hAz))
      all_goals
        go_wp2_with fail
        go_ret
        exact ⟨by simp [*], hbz⟩
end Wh
