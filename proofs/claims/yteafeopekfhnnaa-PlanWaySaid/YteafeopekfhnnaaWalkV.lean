/- PlanWay: the law's walk -/
import Derived.Test.YteafeopekfhnnaaWalkU
namespace Wh
open Go Go.RowKit Go.Shelf Go.Proofs
attribute [local go_sem] run_indexAt_letter

theorem intAt_nats {l : List Nat} {i : Nat} (h : i < l.length) : intAt (nats l) i = ((l[i] : Nat) : Int) := by
  unfold nats
  rw [intAt_eq (by simpa using h)]
  simp

set_option maxHeartbeats 4000000 in
set_option maxRecDepth 100000 in
theorem planWayWalk (w : World) (v : Value) (p : Plan) (hp : PlanV w w.heap.size v p) :
    Calls Try.prog 4 #[v] w fun e w' => e = .returned (.bool true) ∧ Below w.heap.size w w' := by
  have hP := hp
  obtain ⟨_, _, rfl, ⟨Ab, cb, rfl, hlb, hb⟩, ⟨As, cs, rfl, hls, hs⟩⟩ := hp
  have hb0 : Below w.heap.size w (w.alloc (.cells #[.slice Ab p.bins.length cb, .slice As p.sizes.length cs] 25)) := (Below.refl _ _).alloc (Nat.le_refl _) _
  go_enter Try.func4, Try.ntmps4
  go_wp2_with fail
  refine (planWay _ _ p (hP.grow hb0)).mono ?_
  rintro e W1 ⟨x1, rfl, hx1, hb1⟩
  have hA1 := hb1
  have hb01 := hb0.trans (hA1.mono hb0.size)
  obtain ⟨hc1, hf1⟩ := bcell hA1
  by_cases hz : checkPlan p = 0
  · rw [if_pos hz] at hx1
    obtain ⟨A, c, rfl, hl, hA⟩ := hx1
    have hwl : (nats (way p)).length = p.bins.length := by rw [nats_length, way_length]
    have hq := (right_counts hz).2.1
    rw [hwl] at hl
    have hwl' := Lib.hid hwl
    simp only [hwl]
    clear hwl
    have hlt1 : w.heap.size < W1.heap.size := by have := hb1.size; simp at this; omega
    obtain ⟨z1, z2⟩ : W1.cell? ⟨w.heap.size, 0, none⟩ = some (.slice Ab p.bins.length cb) ∧ W1.cell? ⟨w.heap.size, 1, none⟩ = some (.slice As p.sizes.length cs) :=
      ⟨(hc1 w.heap.size 0 (by simp)).trans (by simp), (hc1 w.heap.size 1 (by simp)).trans (by simp)⟩
    rw [hz]
    clear hz
    go_wp2_with fail
    go_loopw [5, 6, 7, 8] (fun k _ _ _ wr => ∃ n : Nat, n ≤ p.bins.length ∧ k = .int .i64 n ∧ Below W1.heap.size W1 wr) (fun k _ _ _ _ => p.bins.length - (intOf k).toNat)
    case atStart => exact ⟨0, by omega, rfl, Below.refl _ _⟩
    case round =>
      obtain ⟨n, hn, rfl, hbr⟩ := hrel
      have y1 := (hbr.cell (p := ⟨w.heap.size, 0, none⟩) hlt1).trans z1
      have y2 := (hbr.cell (p := ⟨w.heap.size, 1, none⟩) hlt1).trans z2
      by_cases hlt : n < p.bins.length
      · have hnw : n < (way p).length := by rw [way_length]; exact hlt
        obtain ⟨hok, hAb, b0⟩ := (hA.up hbr hbr.size).int (i := n) (by rw [hwl'.out]; exact hlt)
        rw [intAt_nats hnw] at b0
        have hmn : (way p)[n] < p.bins.length := mem_way.1 (List.getElem_mem hnw)
        have hpair : ∀ i, (hi : i < n) → ((way p)[i]'(by omega)) ≠ (way p)[n] ∧ ((p.bin (way p)[n]).front = true → (p.bin ((way p)[i]'(by omega))).front = true) ∧ ((p.bin ((way p)[i]'(by omega))).front = (p.bin (way p)[n]).front → ((way p)[i]'(by omega)) < (way p)[n]) := fun i hi => way_at hi hnw
        have hpair' := Lib.hid hpair
        clear hpair
        generalize hcn : (way p)[n] = cn at b0 hmn hpair'
        have hmn2 : cn < p.bins.length := hmn
        have hcn' := Lib.hid hcn
        clear hcn
        go_wp2_with fail
        go_quiet (fail)
        go_wp2_with fail
        have hbq : Below W1.heap.size W1 (wr.drewN nq) := below_drewN hbr nq
        generalize wr.drewN nq = wq at hbq ⊢
        clear b0 hok hAb y1 y2
        go_loopw [6, 7, 8] (fun i _ _ W => ∃ m : Nat, m ≤ n ∧ i = .int .i64 m ∧ Below W1.heap.size W1 W) (fun i _ _ _ => n - (intOf i).toNat)
        case atStart => exact ⟨0, by omega, rfl, hbq⟩
        case round =>
          obtain ⟨m, hm, rfl, hbi⟩ := hrel
          have y1 := (hbi.cell (p := ⟨w.heap.size, 0, none⟩) hlt1).trans z1
          have y2 := (hbi.cell (p := ⟨w.heap.size, 1, none⟩) hlt1).trans z2
          by_cases hmlt : m < n
          · have hmw : m < (way p).length := by omega
            obtain ⟨hokA, hAbA, b0⟩ := (hA.up hbi hbi.size).int (i := m) (by rw [hwl'.out]; omega)
            obtain ⟨_, _, b1⟩ := (hA.up hbi hbi.size).int (i := n) (by rw [hwl'.out]; exact hlt)
            rw [intAt_nats hmw] at b0
            rw [intAt_nats hnw, hcn'.out] at b1
            obtain ⟨r1, r2, r3⟩ := hpair'.out m hmlt
            have hci : (way p)[m] < p.bins.length := mem_way.1 (List.getElem_mem hmw)
            generalize (way p)[m] = ci at b0 r1 r2 r3 hci
            have hBB := hb01.trans (hbi.mono hb01.size)
            obtain ⟨hokB, hAbB, d0, _, _, _⟩ := (hb.up hBB hBB.size).bin hci
            obtain ⟨_, _, e0, _, _, _⟩ := (hb.up hBB hBB.size).bin hmn2
            have r1b : ((ci : Int) == (cn : Int)) = false := by simp; omega
            have r3' := r3
            have r2' := r2
            unfold Plan.bin at r2' r3'
            generalize (binAt p.bins ci).front = fi at d0 r2' r3'
            generalize (binAt p.bins cn).front = fc at e0 r2' r3'
            have hi1 : (ci : Int) < (p.bins.length : Int) := by omega
            have hi2 : (cn : Int) < (p.bins.length : Int) := by omega
            have hi3 : (m : Int) < (p.bins.length : Int) := by omega
            have hi4 : (n : Int) < (p.bins.length : Int) := by omega
            clear r1 r2 r3
            cases fi <;> cases fc
            · have hle : ci < cn := r3' rfl
              clear r2' r3'
              go_wp2_with fail
              go_quiet (fail)
              go_wp2_with fail
              go_quiet (fail)
              go_wp2_with fail
              go_roundw
              case rel => exact ⟨m + 1, by omega, by go_num, below_drewN hbi _⟩
              case measure => simp [intOf]; omega
            · exact absurd (r2' rfl) (by simp)
            · clear r2' r3'
              go_wp2_with fail
              go_quiet (fail)
              go_wp2_with fail
              go_quiet (fail)
              go_wp2_with fail
              go_roundw
              case rel => exact ⟨m + 1, by omega, by go_num, below_drewN hbi _⟩
              case measure => simp [intOf]; omega
            · have hle : ci < cn := r3' rfl
              clear r2' r3'
              go_wp2_with fail
              go_quiet (fail)
              go_wp2_with fail
              go_quiet (fail)
              go_wp2_with fail
              go_roundw
              case rel => exact ⟨m + 1, by omega, by go_num, below_drewN hbi _⟩
              case measure => simp [intOf]; omega
          · have hmn3 : ¬ ((m : Int) < (n : Int)) := by omega
            clear hpair' hcn' hmn2 hmn hnw y1 y2 hb hs hA
            go_wp2_with fail
            go_roundw
            case rel => exact ⟨n + 1, by omega, by go_num, hbi⟩
            case measure => simp [intOf]; omega
      · obtain rfl : n = p.bins.length := by omega
        go_wp2_with fail
        refine (planBegun _).mono ?_
        rintro e W9 ⟨rfl, hb9⟩
        go_wp2_with fail
        go_ret
        exact ⟨rfl, (hb01.trans (hbr.mono hb01.size)).trans (hb9.mono (hb01.trans (hbr.mono hb01.size)).size)⟩
  · have hzb : (checkPlan p != 0) = true := by simpa using hz
    have hzf : (checkPlan p == 0) = false := by simpa using hz
    go_wp2_with fail
    refine (planBegun _).mono ?_
    rintro e W9 ⟨rfl, hb9⟩
    go_wp2_with fail
    go_ret
    exact ⟨rfl, hb01.trans (hb9.mono hb01.size)⟩
end Wh
