/- shelfBegun: walk -/
import Derived.Test.YteafeopekfhnnaaWalkN
import Derived.Deep.RegionHeld3
namespace Wh
open Go Go.RowKit Go.Shelf Go.Proofs
attribute [local go_sem] run_indexAt_letter

def onP : List (List Int) := [[5, 0], [1, 2], [0, 0]]
theorem At.take {w : World} {B : Nat} {A : Option Addr} {xs : List Value} (h : At w B A xs) (k : Nat) : At w B A (xs.take k) := by
  intro hn
  obtain ⟨h1, h2, h3⟩ := h (by rintro rfl; simp at hn)
  refine ⟨h1, h2, fun j v hj => h3 j v ?_⟩
  rw [List.getElem?_take] at hj
  split at hj
  · exact hj
  · cases hj
theorem SlSl.take {α : Type} {enc : α → List Value} {w : World} {B : Nat} {A : Option Addr} {n c : Nat} {l : List (List α)} (h : SlSl enc w B (.slice A n c) l) {k : Nat} (hk : k ≤ l.length) : SlSl enc w B (.slice A k c) (l.take k) := by
  obtain ⟨A0, c0, vs, hv, h1, h2, h3, h4⟩ := h
  injection hv with e1 e2 e3
  subst e1
  have hkl : (l.take k).length = k := by rw [List.length_take]; omega
  refine ⟨A, c, vs.take k, by rw [hkl], by omega, by rw [List.length_take, List.length_take, h2], h3.take k, fun i x hi => ?_⟩
  rw [List.getElem?_take] at hi
  split at hi
  · rename_i hik
    obtain ⟨u, hu, hs⟩ := h4 i x hi
    exact ⟨u, by rw [List.getElem?_take, if_pos hik]; exact hu, hs⟩
  · cases hi

theorem usedYard (w : World) (u vo : Value) (hp : PlanV w w.heap.size u yardP) (ho : SlSl cInt w w.heap.size vo onP) :
    Calls Try.prog 18 #[u, vo, .int .i64 1] w fun e w' => e = .returned (.tuple #[.int .i64 8, .int .i64 0]) ∧ Below w.heap.size w w' := by
  have h := shelfUsed w u vo yardP onP 1 hp ho
  rwa [show usedE yardP onP 1 = 8 from by decide, show shelfError yardP onP 1 0 = 0 from by decide] at h
theorem sumYard (w : World) (u vo : Value) (hp : PlanV w w.heap.size u yardP) (ho : SlSl cInt w w.heap.size vo onP) :
    Calls Try.prog 19 #[u, vo, .int .i64 0] w fun e w' => e = .returned (.tuple #[.int .i64 6, .int .i64 0]) ∧ Below w.heap.size w w' := by
  have h := shelfSum w u vo yardP onP 0 hp ho
  rwa [show sumE yardP onP 0 = 6 from by decide, show shelfError yardP onP 0 0 = 0 from by decide] at h
theorem checkYard (w : World) (u vo : Value) (hp : PlanV w w.heap.size u yardP) (ho : SlSl cInt w w.heap.size vo onP) :
    Calls Try.prog 24 #[u, vo] w fun e w' => e = .returned (.int .i64 0) ∧ Below w.heap.size w w' := by
  have h := shelfCheck w u vo yardP onP hp ho
  rwa [show checkShelf yardP onP = 0 from by decide] at h
theorem checkYard2 (w : World) (u vo : Value) (hp : PlanV w w.heap.size u yardP) (ho : SlSl cInt w w.heap.size vo (onP.take 2)) :
    Calls Try.prog 24 #[u, vo] w fun e w' => e = .returned (.int .i64 1) ∧ Below w.heap.size w w' := by
  have h := shelfCheck w u vo yardP (onP.take 2) hp ho
  rwa [show checkShelf yardP (onP.take 2) = 1 from by decide] at h
theorem putYard (w : World) (u vo : Value) (hp : PlanV w w.heap.size u yardP) (ho : SlSl cInt w w.heap.size vo onP) :
    Calls Try.prog 26 #[u, vo, .int .i64 0, .int .i64 0, .int .i64 (-5)] w fun e w' => ∃ x, e = .returned (.tuple #[x, .int .i64 0]) ∧ SlSl cInt w' w'.heap.size x [[0, 0], [1, 2], [0, 0]] ∧ Below w.heap.size w w' := by
  have h := shelfPut w u vo yardP onP 0 0 (-5) hp ho
  unfold PutPost at h
  rwa [show put yardP onP 0 0 (-5) = ([[0, 0], [1, 2], [0, 0]], 0) from by decide] at h
theorem putYard2 (w : World) (u vo : Value) (hp : PlanV w w.heap.size u yardP) (ho : SlSl cInt w w.heap.size vo onP) :
    Calls Try.prog 26 #[u, vo, .int .i64 0, .int .i64 0, .int .i64 (-6)] w fun e w' => ∃ x, e = .returned (.tuple #[x, .int .i64 3]) ∧ SlSl cInt w' w'.heap.size x [] ∧ Below w.heap.size w w' := by
  have h := shelfPut w u vo yardP onP 0 0 (-6) hp ho
  unfold PutPost at h
  rwa [show put yardP onP 0 0 (-6) = ([], 3) from by decide] at h

/-- A number's cell of rows that are known. -/
theorem SlSl.num {w : World} {B : Nat} {A : Option Addr} {n c : Nat} {l : List (List Int)} (h : SlSl cInt w B (.slice A n c) l) (b k : Nat) {len : Nat} {x : Int} (hb : b < l.length) (hk : k < (rowAt l b).length) (hl : (rowAt l b).length = len) (hx : intAt (rowAt l b) k = x) :
    ∃ A' c', okA A ∧ ablk A < B ∧ okA A' ∧ ablk A' < B ∧ w.cell? ⟨ablk A, aoff A + b, none⟩ = some (.slice A' len c') ∧ w.cell? ⟨ablk A', aoff A' + k, none⟩ = some (.int .i64 x) := by
  obtain ⟨A', c', h1, h2, h3, h4⟩ := h.row hb
  obtain ⟨h5, h6, h7⟩ := h4.at_.int hk
  exact ⟨A', c', h1, h2, h5, h6, by rw [h3, hl], by rw [h7, hx]⟩

set_option maxHeartbeats 4000000 in
set_option maxRecDepth 10000 in
theorem shelfBegun (w : World) : Calls Try.prog 23 #[] w fun e w' => e = .returned (.bool true) ∧ Below w.heap.size w w' := by
  go_enter Try.func23, Try.ntmps23
  go_wp2_with fail
  have hb0 : Below w.heap.size w ((((w.alloc (.cells #[.int .i64 5, .int .i64 0] 3)).alloc (.cells #[.int .i64 1, .int .i64 2] 3)).alloc (.cells #[.int .i64 0, .int .i64 0] 3)).alloc (.cells #[.slice (some ⟨w.heap.size, 0, none⟩) 2 2, .slice (some ⟨w.heap.size + 1, 0, none⟩) 2 2, .slice (some ⟨w.heap.size + 1 + 1, 0, none⟩) 2 2] 23)) :=
    ((((Below.refl _ _).alloc (Nat.le_refl _) _).alloc (by simp) _).alloc (by simp; omega) _).alloc (by simp; omega) _
  have r0 : Sl cInt ((w.alloc (.cells #[.int .i64 5, .int .i64 0] 3)).alloc (.cells #[.int .i64 1, .int .i64 2] 3)) _ _ [5, 0] :=
    ((Own.lit (base := 0) (size := 1) (enc := cInt) w 3 #[.int .i64 5, .int .i64 0] [5, 0] (Nat.zero_le _) (by decide) (fun _ => rfl) rfl).alloc _).sl (by decide)
  have r1 := (Own.lit (base := 0) (size := 1) (enc := cInt) (w.alloc (.cells #[.int .i64 5, .int .i64 0] 3)) 3 #[.int .i64 1, .int .i64 2] [1, 2] (Nat.zero_le _) (by decide) (fun _ => rfl) rfl).sl (by decide)
  have r2 := (Own.lit (base := 0) (size := 1) (enc := cInt) ((w.alloc (.cells #[.int .i64 5, .int .i64 0] 3)).alloc (.cells #[.int .i64 1, .int .i64 2] 3)) 3 #[.int .i64 0, .int .i64 0] [0, 0] (Nat.zero_le _) (by decide) (fun _ => rfl) rfl).sl (by decide)
  have r01 := r0.grow ((Below.refl _ _).alloc (Nat.le_refl _) (.cells #[.int .i64 0, .int .i64 0] 3))
  have r11 := r1.grow ((Below.refl _ _).alloc (Nat.le_refl _) (.cells #[.int .i64 0, .int .i64 0] 3))
  have hon0 := SlSl.lit (enc := cInt) (((w.alloc (.cells #[.int .i64 5, .int .i64 0] 3)).alloc (.cells #[.int .i64 1, .int .i64 2] 3)).alloc (.cells #[.int .i64 0, .int .i64 0] 3)) 23
    #[.slice (some ⟨w.heap.size, 0, none⟩) 2 2, .slice (some ⟨w.heap.size + 1, 0, none⟩) 2 2, .slice (some ⟨w.heap.size + 1 + 1, 0, none⟩) 2 2] onP rfl (by decide) (fun i x hi => by
      match i, hi with
      | 0, hi => obtain rfl : [5, 0] = x := by simpa [onP] using hi
                 exact ⟨_, rfl, r01⟩
      | 1, hi => obtain rfl : [1, 2] = x := by simpa [onP] using hi
                 exact ⟨_, rfl, by simpa using r11⟩
      | 2, hi => obtain rfl : [0, 0] = x := by simpa [onP] using hi
                 exact ⟨_, rfl, by simpa using r2⟩
      | i + 3, hi => simp [onP] at hi)
  have hon0' : SlSl cInt ((((w.alloc (.cells #[.int .i64 5, .int .i64 0] 3)).alloc (.cells #[.int .i64 1, .int .i64 2] 3)).alloc (.cells #[.int .i64 0, .int .i64 0] 3)).alloc (.cells #[.slice (some ⟨w.heap.size, 0, none⟩) 2 2, .slice (some ⟨w.heap.size + 1, 0, none⟩) 2 2, .slice (some ⟨w.heap.size + 1 + 1, 0, none⟩) 2 2] 23)) (World.heap ((((w.alloc (.cells #[.int .i64 5, .int .i64 0] 3)).alloc (.cells #[.int .i64 1, .int .i64 2] 3)).alloc (.cells #[.int .i64 0, .int .i64 0] 3)).alloc (.cells #[.slice (some ⟨w.heap.size, 0, none⟩) 2 2, .slice (some ⟨w.heap.size + 1, 0, none⟩) 2 2, .slice (some ⟨w.heap.size + 1 + 1, 0, none⟩) 2 2] 23))).size (.slice (some ⟨w.heap.size + 1 + 1 + 1, 0, none⟩) 3 3) onP := by simpa [onP] using hon0
  clear hon0
  generalize ((((w.alloc (.cells #[.int .i64 5, .int .i64 0] 3)).alloc (.cells #[.int .i64 1, .int .i64 2] 3)).alloc (.cells #[.int .i64 0, .int .i64 0] 3)).alloc (.cells #[.slice (some ⟨w.heap.size, 0, none⟩) 2 2, .slice (some ⟨w.heap.size + 1, 0, none⟩) 2 2, .slice (some ⟨w.heap.size + 1 + 1, 0, none⟩) 2 2] 23)) = W0 at hon0' hb0 ⊢
  generalize hA9 : (some (⟨w.heap.size + 1 + 1 + 1, 0, none⟩ : Addr)) = A9 at hon0' ⊢
  clear r0 r1 r2 r01 r11 hA9
  refine (lYard _).mono ?_
  rintro e W1 ⟨u1, rfl, hu1, hb1⟩
  have hb01 := hb0.trans (hb1.mono hb0.size)
  have hon1 := hon0'.grow hb1
  go_wp2_with fail
  refine (usedYard _ _ _ hu1 hon1).mono ?_
  rintro e W2 ⟨rfl, hb2⟩
  have hb02 := hb01.trans (hb2.mono hb01.size)
  have hon2 := hon1.grow hb2
  go_wp2_with fail
  refine (lYard _).mono ?_
  rintro e W3 ⟨u3, rfl, hu3, hb3⟩
  have hb03 := hb02.trans (hb3.mono hb02.size)
  have hon3 := hon2.grow hb3
  go_wp2_with fail
  refine (sumYard _ _ _ hu3 hon3).mono ?_
  rintro e W4 ⟨rfl, hb4⟩
  have hb04 := hb03.trans (hb4.mono hb03.size)
  have hon4 := hon3.grow hb4
  go_wp2_with fail
  refine (lYard _).mono ?_
  rintro e W5 ⟨u5, rfl, hu5, hb5⟩
  have hb05 := hb04.trans (hb5.mono hb04.size)
  have hon5 := hon4.grow hb5
  go_wp2_with fail
  refine (putYard _ _ _ hu5 hon5).mono ?_
  rintro e W6 ⟨x6, rfl, hx6, hb6⟩
  obtain ⟨A6, c6, vs6, rfl, _, _, _, _⟩ := id hx6
  have hb06 := hb05.trans (hb6.mono hb05.size)
  have hon6 := hon5.grow hb6
  go_wp2_with fail
  refine (lYard _).mono ?_
  rintro e W7 ⟨u7, rfl, hu7, hb7⟩
  have hb07 := hb06.trans (hb7.mono hb06.size)
  have hon7 := hon6.grow hb7
  have hx7 := hx6.grow hb7
  go_wp2_with fail
  refine (putYard2 _ _ _ hu7 hon7).mono ?_
  rintro e W8 ⟨x8, rfl, hx8, hb8⟩
  have hb08 := hb07.trans (hb8.mono hb07.size)
  have hon8 := hon7.grow hb8
  have hx9 := hx7.grow hb8
  go_wp2_with fail
  obtain ⟨P0, p0, i1, i2, i3, i4, i5, i6⟩ := hx9.num 0 0 (len := 2) (x := 0) (by decide) (by decide) rfl rfl
  obtain ⟨P1, p1, j1, j2, j3, j4, j5, j6⟩ := hx9.num 1 1 (len := 2) (x := 2) (by decide) (by decide) rfl rfl
  obtain ⟨P2, p2, k1, k2, k3, k4, k5, k6⟩ := hon8.num 0 0 (len := 2) (x := 5) (by decide) (by decide) rfl rfl
  simp only [Nat.add_zero] at i5 i6 j5 j6 k5 k6
  clear hon0' hb0 hb1 hb01 hb2 hb02 hb3 hb03 hb4 hb04 hb5 hb05 hb6 hb06 hb7 hb07 hu1 hu3 hu5 hu7 hon1 hon2 hon3 hon4 hon5 hon6 hon7 hx6 hx7 hx8 hx9
  have hon8d : SlSl cInt W8.drew W8.drew.heap.size _ _ := hon8.grow (Below.refl _ _).drew
  have hd8 : Below W8.heap.size W8 W8.drew := (Below.refl _ _).drew
  have tok1 : True := trivial
  go_region_held3 (fun w' => w'.cell? ⟨ablk A6, aoff A6, none⟩ = some (.slice P0 2 p0) ∧ w'.cell? ⟨ablk P0, aoff P0, none⟩ = some (.int .i64 0) ∧ w'.cell? ⟨ablk A6, aoff A6 + 1, none⟩ = some (.slice P1 2 p1) ∧ w'.cell? ⟨ablk P1, aoff P1 + 1, none⟩ = some (.int .i64 2) ∧ w'.cell? ⟨ablk A9, aoff A9, none⟩ = some (.slice P2 2 p2) ∧ w'.cell? ⟨ablk P2, aoff P2, none⟩ = some (.int .i64 5)) (first | (refine ⟨z1, z2, z3, z4, z5, z6⟩) | go_keep)
    (first
    | (go_at_call 41; have t1 := tok1; clear tok1; refine (lYard _).mono ?_; rintro e W9 ⟨u9, rfl, hu9, hb9⟩; have hon9 := hon8d.grow hb9; have hd9 := hd8.trans (hb9.mono hd8.size); have z1 := (hd9.cell (p := ⟨_, _, none⟩) i2).trans i5; have z2 := (hd9.cell (p := ⟨_, _, none⟩) i4).trans i6; have z3 := (hd9.cell (p := ⟨_, _, none⟩) j2).trans j5; have z4 := (hd9.cell (p := ⟨_, _, none⟩) j4).trans j6; have z5 := (hd9.cell (p := ⟨_, _, none⟩) k2).trans k5; have z6 := (hd9.cell (p := ⟨_, _, none⟩) k4).trans k6)
    | (go_at_call 41; refine (lYard _).mono ?_; rintro e W11 ⟨u11, rfl, hu11, hb11⟩; have hon11 := hon10.grow hb11; have hd11 := hd10.trans (hb11.mono hd10.size); have z1 := (hd11.cell (p := ⟨_, _, none⟩) i2).trans i5; have z2 := (hd11.cell (p := ⟨_, _, none⟩) i4).trans i6; have z3 := (hd11.cell (p := ⟨_, _, none⟩) j2).trans j5; have z4 := (hd11.cell (p := ⟨_, _, none⟩) j4).trans j6; have z5 := (hd11.cell (p := ⟨_, _, none⟩) k2).trans k5; have z6 := (hd11.cell (p := ⟨_, _, none⟩) k4).trans k6)
    | (go_at_call_of 24 u11; refine (checkYard2 _ _ _ hu11 (hon11.take (by decide))).mono ?_; rintro e W12 ⟨rfl, hb12⟩; have hd12 := hd11.trans (hb12.mono hd11.size); have z1 := (hd12.cell (p := ⟨_, _, none⟩) i2).trans i5; have z2 := (hd12.cell (p := ⟨_, _, none⟩) i4).trans i6; have z3 := (hd12.cell (p := ⟨_, _, none⟩) j2).trans j5; have z4 := (hd12.cell (p := ⟨_, _, none⟩) j4).trans j6; have z5 := (hd12.cell (p := ⟨_, _, none⟩) k2).trans k5; have z6 := (hd12.cell (p := ⟨_, _, none⟩) k4).trans k6)
    | (go_at_call_of 24 u9; refine (checkYard _ _ _ hu9 hon9).mono ?_; rintro e W10 ⟨rfl, hb10⟩; have hon10 := hon9.grow hb10; have hd10 := hd9.trans (hb10.mono hd9.size); have z1 := (hd10.cell (p := ⟨_, _, none⟩) i2).trans i5; have z2 := (hd10.cell (p := ⟨_, _, none⟩) i4).trans i6; have z3 := (hd10.cell (p := ⟨_, _, none⟩) j2).trans j5; have z4 := (hd10.cell (p := ⟨_, _, none⟩) j4).trans j6; have z5 := (hd10.cell (p := ⟨_, _, none⟩) k2).trans k5; have z6 := (hd10.cell (p := ⟨_, _, none⟩) k4).trans k6))
  all_goals
    go_wp2_with fail
    go_ret
    exact ⟨rfl, hb08.trans (hd12.mono hb08.size)⟩
end Wh
