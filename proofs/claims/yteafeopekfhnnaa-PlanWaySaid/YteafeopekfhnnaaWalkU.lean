/- planBegun, PlanTells: walks -/
import Derived.Test.YteafeopekfhnnaaWalkT
import Derived.Test.YteafeopekfhnnaaWalkN
namespace Wh
open Go Go.RowKit Go.Shelf Go.Proofs
attribute [local go_sem] run_indexAt_letter

def yardBins : Array Value := #[.bool false, .int .i64 100, .int .i64 0, .int .i64 0, .bool true, .int .i64 30, .int .i64 4, .int .i64 8, .bool false, .int .i64 60, .int .i64 0, .int .i64 0]
/-- yard, its memory written out. -/
theorem lYardAt (w : World) : Calls Try.prog 41 #[] w fun e w' => e = .returned (.agg #[.slice (some ⟨w.heap.size + 1, 0, none⟩) 3 3, .slice (some ⟨w.heap.size + 1 + 1, 0, none⟩) 2 2]) ∧
    w' = ((w.alloc (.cells #[.slice (some ⟨w.heap.size + 1, 0, none⟩) 3 3, .slice (some ⟨w.heap.size + 1 + 1, 0, none⟩) 2 2] 25)).alloc
    (.cells #[.bool false, .int .i64 100, .int .i64 0, .int .i64 0, .bool true, .int .i64 30, .int .i64 4, .int .i64 8, .bool false, .int .i64 60, .int .i64 0, .int .i64 0] 35)).alloc (.cells #[.int .i64 2, .int .i64 3] 3) := by
  go_enter Try.func41, Try.ntmps41
  go_wp2_with fail
  refine bodyPost_ret (v := .agg #[.slice (some ⟨w.heap.size + 1, 0, none⟩) 3 3, .slice (some ⟨w.heap.size + 1 + 1, 0, none⟩) 2 2]) (by simp [results, Try.results41, go_sem]) rfl ?_
  exact ⟨rfl, rfl⟩

theorem wayYard (w : World) (u : Value) (hp : PlanV w w.heap.size u yardP) :
    Calls Try.prog 12 #[u] w fun e w' => ∃ x, e = .returned (.tuple #[x, .int .i64 0]) ∧ Sl cInt w' w'.heap.size x [1, 0, 2] ∧ Below w.heap.size w w' := by
  have h := planWay w u yardP hp
  rwa [show checkPlan yardP = 0 from by decide, show (if (0 : Int) = 0 then nats (way yardP) else []) = [1, 0, 2] from by decide] at h
theorem planCheckYard (w : World) (u : Value) (hp : PlanV w w.heap.size u yardP) :
    Calls Try.prog 16 #[u] w fun e w' => e = .returned (.int .i64 0) ∧ Below w.heap.size w w' := by
  have h := planCheck w u yardP hp
  rwa [show checkPlan yardP = 0 from by decide] at h

def yardX : Plan := ⟨[⟨false, 100, 0, 0⟩, ⟨true, 30, 9, 8⟩, ⟨false, 60, 0, 0⟩], [2, 3]⟩
theorem planCheckX (w : World) (u : Value) (hp : PlanV w w.heap.size u yardX) :
    Calls Try.prog 16 #[u] w fun e w' => e = .returned (.int .i64 3) ∧ Below w.heap.size w w' := by
  have h := planCheck w u yardX hp
  rwa [show checkPlan yardX = 3 from by decide] at h
theorem planCheckNil (w : World) :
    Calls Try.prog 16 #[.agg #[.slice none 0 0, .slice none 0 0]] w fun e w' => e = .returned (.int .i64 2) ∧ Below w.heap.size w w' := by
  have h := planCheck w (.agg #[.slice none 0 0, .slice none 0 0]) ⟨[], []⟩ ⟨_, _, rfl, Sl.nil, Sl.nil⟩
  rwa [show checkPlan ⟨[], []⟩ = 2 from by decide] at h

set_option maxHeartbeats 2000000 in
theorem planBegun (w : World) : Calls Try.prog 15 #[] w fun e w' => e = .returned (.bool true) ∧ Below w.heap.size w w' := by
  go_enter Try.func15, Try.ntmps15
  go_wp2_with fail
  refine (lYard _).mono ?_
  rintro e W1 ⟨u1, rfl, hu1, hb1⟩
  go_wp2_with fail
  refine (wayYard _ _ hu1).mono ?_
  rintro e W2 ⟨x2, rfl, hx2, hb2⟩
  have hb02 := hb1.trans (hb2.mono hb1.size)
  go_wp2_with fail
  refine (lYardAt _).mono ?_
  rintro e W3 ⟨rfl, rfl⟩
  go_wp2_with fail
  obtain ⟨W3, hW3⟩ : ∃ W3 : World, W3 = ((((W2.alloc (.cells #[.slice (some ⟨W2.heap.size + 1, 0, none⟩) 3 3, .slice (some ⟨W2.heap.size + 1 + 1, 0, none⟩) 2 2] 25)).alloc
      (.cells #[.bool false, .int .i64 100, .int .i64 0, .int .i64 0, .bool true, .int .i64 30, .int .i64 9, .int .i64 8, .bool false, .int .i64 60, .int .i64 0, .int .i64 0] 35)).alloc (.cells #[.int .i64 2, .int .i64 3] 3)).alloc
      (.cells #[.slice (some ⟨W2.heap.size + 1, 0, none⟩) 3 3, .slice (some ⟨W2.heap.size + 1 + 1, 0, none⟩) 2 2] 25)) := ⟨_, rfl⟩
  have hX : PlanV W3 W3.heap.size
      (.agg #[.slice (some ⟨W2.heap.size + 1, 0, none⟩) 3 3, .slice (some ⟨W2.heap.size + 1 + 1, 0, none⟩) 2 2]) yardX := by
    rw [hW3]
    have b1 := Own.lit (base := 0) (enc := cBin) (size := 4) (W2.alloc (.cells #[.slice (some ⟨W2.heap.size + 1, 0, none⟩) 3 3, .slice (some ⟨W2.heap.size + 1 + 1, 0, none⟩) 2 2] 25)) 35
      #[.bool false, .int .i64 100, .int .i64 0, .int .i64 0, .bool true, .int .i64 30, .int .i64 9, .int .i64 8, .bool false, .int .i64 60, .int .i64 0, .int .i64 0] yardX.bins (Nat.zero_le _) (by decide) (fun _ => rfl) rfl
    have b2 := b1.alloc (.cells #[.int .i64 2, .int .i64 3] 3) |>.alloc (.cells #[.slice (some ⟨W2.heap.size + 1, 0, none⟩) 3 3, .slice (some ⟨W2.heap.size + 1 + 1, 0, none⟩) 2 2] 25)
    have b3 := (Own.lit (base := 0) (enc := cInt) (size := 1) ((W2.alloc (.cells #[.slice (some ⟨W2.heap.size + 1, 0, none⟩) 3 3, .slice (some ⟨W2.heap.size + 1 + 1, 0, none⟩) 2 2] 25)).alloc
      (.cells #[.bool false, .int .i64 100, .int .i64 0, .int .i64 0, .bool true, .int .i64 30, .int .i64 9, .int .i64 8, .bool false, .int .i64 60, .int .i64 0, .int .i64 0] 35)) 3 #[.int .i64 2, .int .i64 3] yardX.sizes (Nat.zero_le _) (by decide) (fun _ => rfl) rfl).alloc
      (.cells #[.slice (some ⟨W2.heap.size + 1, 0, none⟩) 3 3, .slice (some ⟨W2.heap.size + 1 + 1, 0, none⟩) 2 2] 25)
    simp only [World.size_alloc] at b2 b3
    exact ⟨_, _, rfl, b2.sl (by decide), b3.sl (by decide)⟩
  have hbX : Below W2.heap.size W2 W3 := by
    rw [hW3]
    exact ((((Below.refl _ _).alloc (Nat.le_refl _) _).alloc (by simp) _).alloc (by simp; omega) _).alloc (by simp; omega) _
  have hq : W3.cell? ⟨W2.heap.size + 1 + 1 + 1, 0, none⟩ = some (.slice (some ⟨W2.heap.size + 1, 0, none⟩) 3 3) := by rw [hW3]; exact cell_of_heap (heap_alloc_at (by simp)) rfl
  have hq1 : W3.cell? ⟨W2.heap.size + 1 + 1 + 1, 1, none⟩ = some (.slice (some ⟨W2.heap.size + 1 + 1, 0, none⟩) 2 2) := by rw [hW3]; exact cell_of_heap (heap_alloc_at (by simp)) rfl
  have hBx : W2.heap.size + 1 + 1 + 1 < W3.heap.size := by rw [hW3]; simp
  rw [← hW3]
  clear hW3
  have hb03 := hb02.trans (hbX.mono hb02.size)
  have hx3 := hx2.grow hbX
  refine (lYard _).mono ?_
  rintro e W4 ⟨u4, rfl, hu4, hb4⟩
  go_wp2_with fail
  refine (planCheckYard _ _ hu4).mono ?_
  rintro e W5 ⟨rfl, hb5⟩
  have hb35 := hb4.trans (hb5.mono hb4.size)
  have p0 := (hb35.cell (p := ⟨_, _, none⟩) hBx).trans hq
  have p1 := (hb35.cell (p := ⟨_, _, none⟩) hBx).trans hq1
  go_wp2_with fail
  refine (planCheckX _ _ (hX.grow hb35)).mono ?_
  rintro e W6 ⟨rfl, hb6⟩
  have hb36 := hb35.trans (hb6.mono hb35.size)
  go_wp2_with fail
  refine (planCheckNil _).mono ?_
  rintro e W7 ⟨rfl, hb7⟩
  have hb37 := hb36.trans (hb7.mono hb36.size)
  have hx7 := hx3.grow hb37
  go_wp2_with fail
  have hl := (Own.lit (base := 0) (size := 1) (enc := cInt) W7 3 #[.int .i64 1, .int .i64 0, .int .i64 2] [1, 0, 2] (Nat.zero_le _) (by decide) (fun _ => rfl) rfl).sl (by decide)
  have ha : Below W7.heap.size W7 (W7.alloc (.cells #[.int .i64 1, .int .i64 0, .int .i64 2] 3)) := (Below.refl _ _).alloc (Nat.le_refl _) _
  refine (rSameInts _ _ _ _ _ (hx7.grow ha) hl).mono ?_
  rintro e W8 ⟨rfl, hb8⟩
  have hb38 := hb37.trans ((ha.trans (hb8.mono ha.size)).mono hb37.size)
  go_wp2_with fail
  go_ret
  exact ⟨by simp, hb03.trans (hb38.mono hb03.size)⟩

set_option maxHeartbeats 2000000 in
theorem planTellsWalk (w : World) (v : Value) (p : Plan) (hp : PlanV w w.heap.size v p) :
    Calls Try.prog 3 #[v] w fun e w' => e = .returned (.bool true) ∧ Below w.heap.size w w' := by
  have hP := hp
  obtain ⟨_, _, rfl, ⟨Ab, cb, rfl, hlb, hb⟩, ⟨As, cs, rfl, hls, hs⟩⟩ := hp
  have hb0 : Below w.heap.size w (w.alloc (.cells #[.slice Ab p.bins.length cb, .slice As p.sizes.length cs] 25)) := (Below.refl _ _).alloc (Nat.le_refl _) _
  go_enter Try.func3, Try.ntmps3
  go_wp2_with fail
  refine (planWay _ _ p (hP.grow hb0)).mono ?_
  rintro e W1 ⟨x1, rfl, hx1, hb1⟩
  have hA1 := hb1
  have hb01 := hb0.trans (hA1.mono hb0.size)
  obtain ⟨hc1, hf1⟩ := bcell hA1
  go_wp2_with fail
  refine (rCheckPlan _ _ p (hP.grow hb01)).mono ?_
  rintro e W2 ⟨rfl, hb2⟩
  have hA2 := hA1.trans (hb2.mono hA1.size)
  have hb02 := hb0.trans (hA2.mono hb0.size)
  obtain ⟨hc2, hf2⟩ := bcell hA2
  have hx2 := hx1.grow hb2
  by_cases hz : checkPlan p = 0
  · go_wp2_with fail
    refine (rWayOf _ _ p (hP.grow hb02) (by have := (right_counts hz).2.1; omega)).mono ?_
    rintro e W3 ⟨x3, rfl, ho3, hb3⟩
    have hA3 := hA2.trans (hb3.mono hA2.size)
    have hb03 := hb0.trans (hA3.mono hb0.size)
    obtain ⟨hc3, hf3⟩ := bcell hA3
    have hx3 := hx2.grow hb3
    have hw3 := ho3.sl (by rw [nats_length, way_length]; have := (right_counts hz).2.1; omega)
    rw [if_pos hz] at hx3
    go_wp2_with fail
    refine (planBegun _).mono ?_
    rintro e Y1 ⟨rfl, hy1⟩
    have hB1 := hA3.trans (hy1.mono hA3.size)
    have hbB1 := hb0.trans (hB1.mono hb0.size)
    obtain ⟨hd1, hg1⟩ := bcell hB1
    have hxa := hx3.grow hy1
    have hwa := hw3.grow hy1
    go_wp2_with fail
    refine (planCheck _ _ p (hP.grow hbB1)).mono ?_
    rintro e Y2 ⟨rfl, hy2⟩
    have hB2 := hB1.trans (hy2.mono hB1.size)
    have hbB2 := hb0.trans (hB2.mono hb0.size)
    have hxb := hxa.grow hy2
    have hwb := hwa.grow hy2
    go_wp2_with fail
    refine (rSameInts _ _ _ _ _ hxb hwb).mono ?_
    rintro e Y3 ⟨rfl, hy3⟩
    have hbB3 := hbB2.trans (hy3.mono hbB2.size)
    go_wp2_with fail
    go_ret
    exact ⟨by simp [*], hbB3⟩
  · have hzb : (checkPlan p == 0) = false := by simpa using hz
    rw [if_neg hz] at hx2
    go_wp2_with fail
    refine (planBegun _).mono ?_
    rintro e Y1 ⟨rfl, hy1⟩
    have hB1 := hA2.trans (hy1.mono hA2.size)
    have hbB1 := hb0.trans (hB1.mono hb0.size)
    obtain ⟨hd1, hg1⟩ := bcell hB1
    have hxa := hx2.grow hy1
    skip
    go_wp2_with fail
    refine (planCheck _ _ p (hP.grow hbB1)).mono ?_
    rintro e Y2 ⟨rfl, hy2⟩
    have hB2 := hB1.trans (hy2.mono hB1.size)
    have hbB2 := hb0.trans (hB2.mono hb0.size)
    have hxb := hxa.grow hy2
    skip
    go_wp2_with fail
    refine (rSameInts _ _ _ _ _ hxb Sl.nil).mono ?_
    rintro e Y3 ⟨rfl, hy3⟩
    have hbB3 := hbB2.trans (hy3.mono hbB2.size)
    go_wp2_with fail
    go_ret
    exact ⟨by simp [*], hbB3⟩
end Wh
