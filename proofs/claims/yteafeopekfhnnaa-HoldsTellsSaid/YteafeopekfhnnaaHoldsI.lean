/- holdsBegun: walk -/
import Derived.Test.YteafeopekfhnnaaHoldsH
namespace Wh
open Go Go.RowKit Go.Shelf Go.Proofs
attribute [local go_sem] run_indexAt_letter

def hbL : List Hold := [⟨0, 1, 2, 5⟩, ⟨1, 0, 0, 3⟩]
def hbA : List Hold := [⟨0, 1, 1, 4⟩, ⟨0, 1, 2, 5⟩, ⟨1, 0, 0, 3⟩]
def hbB : List Hold := [⟨0, 1, 1, 4⟩, ⟨0, 1, 2, 7⟩, ⟨1, 0, 0, 3⟩]
theorem hb1 (w : World) (v : Value) (hv : Sl cHold w w.heap.size v hbL) :
    Calls Try.prog 37 #[v, .agg #[.int .i64 0, .int .i64 1, .int .i64 1, .int .i64 4]] w fun e w' => ∃ u, e = .returned (.tuple #[u, .int .i64 0]) ∧ Own cHold 4 58 w' w.heap.size u hbA ∧ Below w.heap.size w w' := by
  have h := hdAdd w v hbL ⟨0, 1, 1, 4⟩ hv
  unfold AddPost at h
  rwa [show add hbL ⟨0, 1, 1, 4⟩ = (hbA, 0) from by decide] at h
theorem hb2 (w : World) (v : Value) (hv : Sl cHold w w.heap.size v hbA) :
    Calls Try.prog 37 #[v, .agg #[.int .i64 0, .int .i64 1, .int .i64 2, .int .i64 2]] w fun e w' => ∃ u, e = .returned (.tuple #[u, .int .i64 0]) ∧ Own cHold 4 58 w' w.heap.size u hbB ∧ Below w.heap.size w w' := by
  have h := hdAdd w v hbA ⟨0, 1, 2, 2⟩ hv
  unfold AddPost at h
  rwa [show add hbA ⟨0, 1, 2, 2⟩ = (hbB, 0) from by decide] at h
theorem hb3 (w : World) (v : Value) (hv : Sl cHold w w.heap.size v hbB) :
    Calls Try.prog 29 #[v, .int .i64 1, .int .i64 0, .int .i64 0] w fun e w' => ∃ u, e = .returned (.tuple #[u, .int .i64 3, .int .i64 0]) ∧ Own cHold 4 58 w' w.heap.size u [⟨0, 1, 1, 4⟩, ⟨0, 1, 2, 7⟩] ∧ Below w.heap.size w w' := by
  have h := hdDrop w v hbB 1 0 0 hv
  unfold DropPost at h
  rwa [show drop hbB 1 0 0 = ([⟨0, 1, 1, 4⟩, ⟨0, 1, 2, 7⟩], 3, 0) from by decide] at h
theorem hb4 (w : World) (v : Value) (hv : Sl cHold w w.heap.size v hbB) :
    Calls Try.prog 30 #[v, .int .i64 0, .int .i64 1] w fun e w' => e = .returned (.tuple #[.int .i64 11, .int .i64 0]) ∧ Below w.heap.size w w' := by
  have h := hdKept w v hbB 0 1 hv
  rwa [show keptE hbB 0 1 = (11, 0) from by decide] at h
theorem hb5 (w : World) (v : Value) (hv : Sl cHold w w.heap.size v hbB) :
    Calls Try.prog 29 #[v, .int .i64 1, .int .i64 1, .int .i64 0] w fun e w' => ∃ u, e = .returned (.tuple #[u, .int .i64 0, .int .i64 4]) ∧ Own cHold 4 58 w' w.heap.size u [] ∧ Below w.heap.size w w' := by
  have h := hdDrop w v hbB 1 1 0 hv
  unfold DropPost at h
  rwa [show drop hbB 1 1 0 = ([], 0, 4) from by decide] at h
theorem hb6 (w : World) (v : Value) (hv : Sl cHold w w.heap.size v hbL) :
    Calls Try.prog 35 #[v] w fun e w' => e = .returned (.int .i64 0) ∧ Below w.heap.size w w' := by
  have h := hdCheck w v hbL hv
  rwa [show checkHolds hbL = 0 from by decide] at h
theorem Own.sl' {α : Type} {enc : α → List Value} {size : Nat} {e : TypeId} {w : World} {base : Nat} {v : Value} {l : List α} (h : Own enc size e w base v l) (hn : l.length ≤ 1000000) : Sl enc w w.heap.size v l := h.sl (by omega)

set_option maxHeartbeats 4000000 in
theorem holdsBegun (w : World) : Calls Try.prog 34 #[] w fun e w' => e = .returned (.bool true) ∧ Below w.heap.size w w' := by
  go_enter Try.func34, Try.ntmps34
  go_wp2_with fail
  obtain ⟨W0, hW0⟩ : ∃ W0, W0 = w.alloc (.cells #[.int .i64 0, .int .i64 1, .int .i64 2, .int .i64 5, .int .i64 1, .int .i64 0, .int .i64 0, .int .i64 3] 58) := ⟨_, rfl⟩
  have hl0 := (Own.lit (base := 0) (size := 4) (enc := cHold) w 58 #[.int .i64 0, .int .i64 1, .int .i64 2, .int .i64 5, .int .i64 1, .int .i64 0, .int .i64 0, .int .i64 3] hbL (Nat.zero_le _) (by decide) (fun _ => rfl) rfl).sl' (by decide)
  have hb0 : Below w.heap.size w W0 := by rw [hW0]; exact (Below.refl _ _).alloc (Nat.le_refl _) _
  rw [← hW0] at hl0 ⊢
  clear hW0
  have hl0' : Sl cHold W0 W0.heap.size (.slice (some ⟨w.heap.size, 0, none⟩) 2 2) hbL := hl0
  clear hl0
  refine (hb1 _ _ hl0').mono ?_
  rintro e W1 ⟨u1, rfl, hu1, hb1⟩
  obtain ⟨A1, c1, rfl⟩ := hu1.isSlice
  have ha1 := hu1.sl' (by decide)
  go_wp2_with fail
  refine (hb2 _ _ ha1).mono ?_
  rintro e W2 ⟨u2, rfl, hu2, hb2⟩
  obtain ⟨A2, c2, rfl⟩ := hu2.isSlice
  have ha2 := ha1.grow hb2
  have hs2 := hu2.sl' (by decide)
  have hb02 := hb0.trans ((hb1.trans (hb2.mono hb1.size)).mono hb0.size)
  have hl2 := (hl0'.grow hb1).grow hb2
  go_wp2_with fail
  refine (hb3 _ _ hs2).mono ?_
  rintro e W3 ⟨u3, rfl, hu3, hb3⟩
  obtain ⟨A3, c3, rfl⟩ := hu3.isSlice
  have ha3 := ha2.grow hb3
  have hs3 := hs2.grow hb3
  have hl3 := hl2.grow hb3
  have hb03 := hb02.trans (hb3.mono hb02.size)
  go_wp2_with fail
  refine (hb4 _ _ hs3).mono ?_
  rintro e W4 ⟨rfl, hb4⟩
  have ha4 := ha3.grow hb4
  have hs4 := hs3.grow hb4
  have hl4 := hl3.grow hb4
  have hb04 := hb03.trans (hb4.mono hb03.size)
  go_wp2_with fail
  refine (hb5 _ _ hs4).mono ?_
  rintro e W5 ⟨u5, rfl, hu5, hb5⟩
  have ha5 := ha4.grow hb5
  have hs5 := hs4.grow hb5
  have hl5 := hl4.grow hb5
  have hb05 := hb04.trans (hb5.mono hb04.size)
  obtain ⟨i1, i2, i3, i4, i5, i6⟩ := ha5.at_.hold (i := 0) (by decide)
  obtain ⟨j1, j2, j3, j4, j5, j6⟩ := hs5.at_.hold (i := 1) (by decide)
  simp only [hbA, hbB, hold, List.getD_cons_zero, List.getD_cons_succ] at i5 j6
  simp only [hbA, hbB, List.length_cons, List.length_nil, Nat.reduceAdd, Nat.zero_mul, Nat.add_zero] at i5 j6 ⊢
  clear hu1 hu2 hu3 hu5 ha1 ha2 ha3 ha4 ha5 hs2 hs3 hs4 hs5 hl2 hl3 hl4 hl0' hb0 hb1 hb2 hb3 hb4 hb5 hb02 hb03 hb04
  go_wp2_with fail
  refine (hb6 _ _ hl5).mono ?_
  rintro e W6 ⟨rfl, hb6⟩
  have k5 := (hb6.cell (p := ⟨ablk A1, aoff A1 + 2, none⟩) i2).trans i5
  have k6 := (hb6.cell (p := ⟨ablk A2, aoff A2 + 1 * 4 + 3, none⟩) j2).trans j6
  go_wp2_with fail
  go_ret
  exact ⟨rfl, hb05.trans (hb6.mono hb05.size)⟩
end Wh
