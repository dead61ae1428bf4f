/- Texts of the claim, joined: PlainJ, HoldsA, HoldsB, HoldsC, WalkL, WalkN, Same, StateB, StateC. -/
import Derived.Deep.RegionHeld3
import Derived.Laws.StructEq
import Derived.Test.YtijilfghfahgjaaQ09
import Derived.Test.YtijilfghfahgjaaQ02
import Derived.Test.YtijilfghfahgjaaQ04
import Derived.Test.YtijilfghfahgjaaQ07
import Derived.Test.YtijilfghfahgjaaQ03
import Derived.Test.YtijilfghfahgjaaQ08
namespace Wh

theorem availE_ok {p : Plan} {s : State} {b g : Int} (h : checkState p s = 0) (hb : isBin p b = true) (hg : isGood p g = true) : availE p s b g = (avail s b g, 0) := by
  unfold availE
  rw [if_neg (fun hn => hn h), hb, hg]; rfl
-- what is begun
theorem sumTo_zero {f : Nat → Int} {n : Nat} (h : ∀ k, k < n → f k = 0) : sumTo f n = 0 := by
  induction n with
  | zero => rfl
  | succ n ih =>
    show sumTo f n + f n = 0
    rw [ih fun k hk => h k (by omega), h n (by omega)]
    rfl
-- what is received
theorem heldIn_mem {s t : State} (hh : t.holds = s.holds) (hg : ∀ x ∈ s.holds, (t.line x.order.toNat x.line.toNat).good = (s.line x.order.toNat x.line.toNat).good) (b g : Int) : heldIn t b g = heldIn s b g := by
  unfold heldIn
  rw [hh]
  congr 1
  apply List.map_congr_left
  intro h hm
  unfold heldN
  rw [hg h hm]
theorem cell_setCell {on : List (List Int)} {b g b' g' : Nat} {n : Int} (hb : b < on.length) (hg : g < (rowAt on b).length) : cell (setCell on b g n) b' g' = if b' = b ∧ g' = g then n else cell on b' g' := cell_set hb hg
theorem sumOf_setCell {on : List (List Int)} {b g : Nat} {n : Int} (hb : b < on.length) (hg : g < (rowAt on b).length) (g' : Nat) : sumOf (setCell on b g n) g' = sumOf on g' + if g' = g then n - cell on b g else 0 := by
  unfold sumOf
  rw [length_setCell]
  by_cases h : g' = g
  · subst h
    rw [if_pos rfl]
    refine sumTo_one (i := b) hb (fun k hk hne => ?_) ?_
    · show cell _ k g' = _
      rw [cell_setCell hb hg, if_neg (by omega)]
    · show cell _ b g' = _
      rw [cell_setCell hb hg, if_pos ⟨rfl, rfl⟩]
      omega
  · rw [if_neg h, Int.add_zero]
    refine sumTo_congr fun k hk => ?_
    show cell (setCell on b g n) k g' = cell on k g'
    rw [cell_setCell hb hg, if_neg (by omega)]
theorem sumsOk_set {p : Plan} {l : List Int} {lo : Int} (h : sumsOk p l lo = true) {g : Nat} (hg : g < l.length) {n : Int} (h1 : lo ≤ n) (h2 : n ≤ 1048576) : sumsOk p (l.set g n) lo = true := by
  obtain ⟨h3, h4⟩ := sumsOk_iff.1 h
  refine sumsOk_iff.2 ⟨by simpa using h3, all_of 0 fun k hk => ?_⟩
  have e : (l.set g n).getD k 0 = if k = g then n else intAt l k := intAt_set hg
  rw [e]
  split
  · exact within_iff.2 ⟨h1, h2⟩
  · exact all_at 0 h4 (by simpa using hk)
theorem received {p : Plan} {s : State} {b g : Nat} {n : Int} (h : checkState p s = 0) (hb : b < p.bins.length) (hg : g < p.sizes.length) (hn : 1 ≤ n) (h2 : cell s.on b g + coming s b g + n ≤ 200) (h3 : intAt s.inn g + n ≤ 1048576) :
    checkState p { s with on := setCell s.on b g (cell s.on b g + n), inn := s.inn.set g (intAt s.inn g + n) } = 0 := by
  obtain ⟨hr, hgot⟩ := check_iff.1 h
  have hs := hr.sane
  have hbl : b < s.on.length := by rw [hs.onLen]; exact hb
  have hgl : g < (rowAt s.on b).length := by rw [hs.rowLen hb]; exact hg
  have hgi : g < s.inn.length := by rw [hs.inn.1]; exact hg
  have hcell := hs.cell hb hg
  have hinn := hs.inn.2 hg
  have hcom := coming_range hs b g
  refine check_iff.2 ⟨Right.of (Sane.of ?_ hs.orders4 hs.moves8 (fun o ho => ⟨hs.lines3 ho, hs.kind ho⟩) (fun o k ho hk => lineOk_iff.2 (hs.line ho hk)) hs.holds (fun x hx => List.all_eq_true.1 (formed_iff.1 hs.form).2.2.1 x hx) (fun x hx => List.all_eq_true.1 (formed_iff.1 hs.form).2.2.2.1 x hx)
    (sumsOk_set (formed_iff.1 hs.form).2.2.2.2.1 hgi (by omega) h3) (formed_iff.1 hs.form).2.2.2.2.2.1 (formed_iff.1 hs.form).2.2.2.2.2.2) (fun g' hg' => ?_) (fun b' g' hb' hg' => ?_) hr.line, hgot⟩
  · exact checkShelf_zero.2 ⟨hs.plan, setCell_ok (checkShelf_zero.1 hs.shelf).2 (by omega) hb hg⟩
  · show sumOf (setCell s.on b g (cell s.on b g + n)) g' = intAt (s.inn.set g (intAt s.inn g + n)) g' - intAt s.out g' + intAt s.fixed g'
    rw [sumOf_setCell hbl hgl, intAt_set hgi, hr.sum hg']
    by_cases e : g' = g
    · subst e
      rw [if_pos rfl, if_pos rfl]
      omega
    · rw [if_neg e, if_neg e]
      omega
  · show bound s b' g' ≤ cell (setCell s.on b g (cell s.on b g + n)) b' g'
    have := hr.bnd hb' hg'
    rw [cell_setCell hbl hgl]
    split
    · rename_i e
      obtain ⟨rfl, rfl⟩ := e
      omega
    · exact this
-- what is entered
end Wh
namespace Wh
open Go Go.RowKit Go.Shelf Go.Proofs
attribute [local go_sem] run_indexAt_letter

set_option maxHeartbeats 400000 in
theorem cmpNaN (n : Int) (w : World) : Calls Try.prog 129 #[.int .i64 n] w fun e w' => e = .returned (.bool false) ∧ w = w' := by
  go_enter Try.func129, Try.ntmps129
  go_wp2
  go_ret
  exact ⟨by simp, rfl⟩
set_option maxHeartbeats 400000 in
theorem cmpCompare (a b : Int) (w : World) : Calls Try.prog 124 #[.int .i64 a, .int .i64 b] w fun e w' => e = .returned (.int .i64 (cmp3 a b)) ∧ w = w' := by
  rcases cmp3_cases a b with ⟨h1, h2⟩ | ⟨h1, h2⟩ | ⟨h1, h2⟩
  · go_enter Try.func124, Try.ntmps124
    go_wp2_with (go_at_call 129; refine (cmpNaN _ _).mono ?_; rintro e w' ⟨rfl, rfl⟩)
    go_ret
    exact ⟨ret_int h2.symm, rfl⟩
  · go_enter Try.func124, Try.ntmps124
    go_wp2_with (go_at_call 129; refine (cmpNaN _ _).mono ?_; rintro e w' ⟨rfl, rfl⟩)
    go_ret
    exact ⟨ret_int h2.symm, rfl⟩
  · subst h1
    go_enter Try.func124, Try.ntmps124
    go_wp2_with (go_at_call 129; refine (cmpNaN _ _).mono ?_; rintro e w' ⟨rfl, rfl⟩)
    go_ret
    exact ⟨ret_int h2.symm, rfl⟩

def or3 (a b c : Int) : Int := if a ≠ 0 then a else if b ≠ 0 then b else c
set_option maxHeartbeats 1000000 in
theorem cmpOr (a b c : Int) (w : World) (bl off k : Nat) (h0 : w.cell? ⟨bl, off, none⟩ = some (.int .i64 a)) (h1 : w.cell? ⟨bl, off + 1, none⟩ = some (.int .i64 b)) (h2 : w.cell? ⟨bl, off + 2, none⟩ = some (.int .i64 c)) :
    Calls Try.prog 123 #[.slice (some ⟨bl, off, none⟩) 3 k] w fun e w' => e = .returned (.int .i64 (or3 a b c)) ∧ w = w' := by
  by_cases ha : a = 0
  · subst ha
    by_cases hb : b = 0
    · subst hb
      have hfin : or3 0 0 c = c := by simp [or3]
      by_cases hc : c = 0
      · subst hc
        go_enter Try.func123, Try.ntmps123
        go_wp2_with fail
        refine wp_loop_rounds 4 ?_
        rw [rounds_succ]
        go_wp2_with fail
        rw [rounds_succ]
        go_wp2_with fail
        rw [rounds_succ]
        go_wp2_with fail
        rw [rounds_succ]
        go_wp2_with fail
        go_ret
        exact ⟨ret_int hfin.symm, rfl⟩
      · have hc' : (c != 0) = true := by simpa using hc
        go_enter Try.func123, Try.ntmps123
        go_wp2_with fail
        refine wp_loop_rounds 4 ?_
        rw [rounds_succ]
        go_wp2_with fail
        rw [rounds_succ]
        go_wp2_with fail
        rw [rounds_succ]
        go_wp2_with fail
        go_ret
        exact ⟨ret_int hfin.symm, rfl⟩
    · have hfin : or3 0 b c = b := by simp [or3, hb]
      have hb' : (b != 0) = true := by simpa using hb
      go_enter Try.func123, Try.ntmps123
      go_wp2_with fail
      refine wp_loop_rounds 4 ?_
      rw [rounds_succ]
      go_wp2_with fail
      rw [rounds_succ]
      go_wp2_with fail
      go_ret
      exact ⟨ret_int hfin.symm, rfl⟩
  · have hfin : or3 a b c = a := by simp [or3, ha]
    have ha' : (a != 0) = true := by simpa using ha
    go_enter Try.func123, Try.ntmps123
    go_wp2_with fail
    refine wp_loop_rounds 4 ?_
    rw [rounds_succ]
    go_wp2_with fail
    go_ret
    exact ⟨ret_int hfin.symm, rfl⟩

set_option maxHeartbeats 400000 in
theorem hdOrder (a b : Hold) (w : World) : Calls Try.prog 107 #[vHold a, vHold b] w fun e w' => e = .returned (.int .i64 (ord a b)) ∧ Below w.heap.size w w' := by
  unfold vHold
  go_enter Try.func107, Try.ntmps107
  go_wp2_with fail
  go_region_held3 (fun w' => w'.cell? ⟨w.heap.size, 0, none⟩ = some (.int .i64 a.order) ∧ w'.cell? ⟨w.heap.size, 1, none⟩ = some (.int .i64 a.line) ∧ w'.cell? ⟨w.heap.size, 2, none⟩ = some (.int .i64 a.bin) ∧
    w'.cell? ⟨w.heap.size + 1, 0, none⟩ = some (.int .i64 b.order) ∧ w'.cell? ⟨w.heap.size + 1, 1, none⟩ = some (.int .i64 b.line) ∧ w'.cell? ⟨w.heap.size + 1, 2, none⟩ = some (.int .i64 b.bin)) (first | go_keep)
    (first
    | (go_at_call 124; refine (cmpCompare _ _ _).mono ?_; rintro e w' ⟨rfl, rfl⟩)
    | (go_at_call 123; refine (cmpOr (cmp3 a.order b.order) (cmp3 a.line b.line) (cmp3 a.bin b.bin) _ _ _ _ (by go_simp) (by go_simp) (by go_simp)).mono ?_; rintro e w' ⟨rfl, rfl⟩))
  go_wp2_with fail
  go_ret
  exact ⟨rfl, ((((Below.refl _ _).alloc (Nat.le_refl _) _).alloc (by simp) _).alloc (by simp; omega) _).drew⟩

end Wh
namespace Wh
open Go Go.RowKit Go.Shelf Go.Proofs
attribute [local go_sem] run_indexAt_letter

theorem hold_parts (h : Hold) : (min (min h.order h.line) h.bin < 0 ∧ holdFine h = false) ∨ (0 ≤ min (min h.order h.line) h.bin ∧ 4 ≤ h.order ∧ holdFine h = false) ∨
    (0 ≤ min (min h.order h.line) h.bin ∧ h.order < 4 ∧ 3 ≤ h.line ∧ holdFine h = false) ∨ (0 ≤ min (min h.order h.line) h.bin ∧ h.order < 4 ∧ h.line < 3 ∧ 6 ≤ h.bin ∧ holdFine h = false) ∨
    (0 ≤ min (min h.order h.line) h.bin ∧ h.order < 4 ∧ h.line < 3 ∧ h.bin < 6 ∧ h.n < 1 ∧ holdFine h = false) ∨ (0 ≤ min (min h.order h.line) h.bin ∧ h.order < 4 ∧ h.line < 3 ∧ h.bin < 6 ∧ 1 ≤ h.n ∧ 200 < h.n ∧ holdFine h = false) ∨
    (0 ≤ min (min h.order h.line) h.bin ∧ h.order < 4 ∧ h.line < 3 ∧ h.bin < 6 ∧ 1 ≤ h.n ∧ h.n ≤ 200 ∧ holdFine h = true) := by
  have hi := @fine_iff h
  unfold keyOk at hi
  cases hf : holdFine h
  · rw [hf] at hi
    simp only [Bool.false_eq_true, false_iff] at hi
    simp only [and_true, reduceCtorEq, and_false, or_false]
    omega
  · rw [hf] at hi
    simp only [true_iff] at hi
    simp only [and_true, reduceCtorEq, and_false, false_or]
    omega

set_option maxHeartbeats 1000000 in
theorem hdFine (h : Hold) (w : World) : Calls Try.prog 106 #[vHold h] w fun e w' => e = .returned (.bool (holdFine h)) ∧ Below w.heap.size w w' := by
  unfold vHold
  rcases hold_parts h with ⟨g1, hf⟩ | ⟨g1, g2, hf⟩ | ⟨g1, g2, g3, hf⟩ | ⟨g1, g2, g3, g4, hf⟩ | ⟨g1, g2, g3, g4, g5, hf⟩ | ⟨g1, g2, g3, g4, g5, g6, hf⟩ | ⟨g1, g2, g3, g4, g5, g6, hf⟩
  all_goals
    have hf' := Lib.hid hf
    clear hf
    go_enter Try.func106, Try.ntmps106
    go_wp2
    all_goals
      go_ret
      exact ⟨ret_bool (by rw [hf'.out] <;> first | rfl | (simp <;> omega)), (Below.refl _ _).alloc (Nat.le_refl _) _⟩

def stepOk (l : List Hold) (k : Nat) : Bool := holdFine (hold l k) && (decide (k = 0) || decide (place (hold l (k - 1)) < place (hold l k)))
theorem holds_step {l : List Hold} {k : Nat} (hk : k < l.length) (h : stepOk l k = false) : checkHolds l = 1 := by
  unfold checkHolds
  rw [if_neg]
  intro hc
  have := List.all_eq_true.1 hc k (List.mem_range.2 hk)
  unfold stepOk at h
  rw [h] at this
  cases this
theorem holds_all {l : List Hold} (h : ∀ k, k < l.length → stepOk l k = true) : checkHolds l = 0 := by
  unfold checkHolds
  rw [if_pos]
  exact List.all_eq_true.2 fun k hk => h k (List.mem_range.1 hk)
theorem step_fine {l : List Hold} {k : Nat} (h : stepOk l k = true) : holdFine (hold l k) = true := by
  unfold stepOk at h
  simp only [Bool.and_eq_true] at h
  exact h.1
theorem step_no {l : List Hold} {k : Nat} (h : holdFine (hold l k) = false) : stepOk l k = false := by
  unfold stepOk
  rw [h]; rfl
theorem step_zero {l : List Hold} (h : holdFine (hold l 0) = true) : stepOk l 0 = true := by
  unfold stepOk
  rw [h]; rfl
theorem step_succ {l : List Hold} {k : Nat} (h : holdFine (hold l (k + 1)) = true) : stepOk l (k + 1) = decide (place (hold l k) < place (hold l (k + 1))) := by
  unfold stepOk
  rw [h]
  simp
theorem step_ord {l : List Hold} {k : Nat} (h : holdFine (hold l (k + 1)) = true) (h0 : holdFine (hold l k) = true) : stepOk l (k + 1) = decide (ord (hold l k) (hold l (k + 1)) < 0) := by
  rw [step_succ h]
  congr 1
  rw [ord_place (fine_iff.1 h0).1 (fine_iff.1 h).1]

set_option maxHeartbeats 1000000 in
theorem hdCheck (w : World) (v : Value) (l : List Hold) (hv : Sl cHold w w.heap.size v l) :
    Calls Try.prog 64 #[v] w fun e w' => e = .returned (.int .i64 (checkHolds l)) ∧ Below w.heap.size w w' := by
  obtain ⟨A, c, rfl, hl, hA⟩ := hv
  go_enter Try.func64, Try.ntmps64
  go_wp2_with fail
  go_loopw [7, 3, 4] (fun i _ _ wr => ∃ k : Nat, k ≤ l.length ∧ i = .int .i64 k ∧ (∀ j, j < k → stepOk l j = true) ∧ Below w.heap.size w wr) (fun i _ _ _ => l.length - (intOf i).toNat)
  case atStart => exact ⟨0, Nat.zero_le _, rfl, fun j hj => by omega, Below.refl _ _⟩
  case round =>
    obtain ⟨k, hk, rfl, hall, hbw⟩ := hrel
    by_cases hlt : k < l.length
    · obtain ⟨hok, hAb, b0, b1, b2, b3⟩ := (hA.up hbw hbw.size).hold hlt
      have hba : Below w.heap.size w (wr.alloc (.cells #[.int .i64 (hold l k).order, .int .i64 (hold l k).line, .int .i64 (hold l k).bin, .int .i64 (hold l k).n] 63)) := hbw.alloc hbw.size _
      have q0 := fun o d os => cells_wld (w := wr.alloc (.cells #[.int .i64 (hold l k).order, .int .i64 (hold l k).line, .int .i64 (hold l k).bin, .int .i64 (hold l k).n] 63)) (b := wr.heap.size) (by simp) o d os
      cases hf : holdFine (hold l k)
      · go_wp2_with fail
        refine wp_region_wld (by kernel_rfl) (by kernel_rfl) ?_
        repeat (go_big_quiet_step ((go_at_call 106; refine calls_wld (hdFine (hold l k) _))))
        refine wpQuiet_nil ?_
        intro W2 hw'
        have hb2 := below_of_cls hw'
        clear hw'
        go_wp2_with fail
        go_ret
        exact ⟨ret_int (holds_step hlt (step_no hf)).symm, hba.trans (hb2.mono hba.size)⟩
      · rcases k with _ | m
        · have hst := step_zero hf
          simp only [Nat.zero_mul, Nat.add_zero] at b0 b1 b2 b3
          go_wp2_with fail
          refine wp_region_wld (by kernel_rfl) (by kernel_rfl) ?_
          repeat (go_big_quiet_step ((go_at_call 106; refine calls_wld (hdFine (hold l 0) _))))
          refine wpQuiet_nil ?_
          intro W2 hw'
          have hb2 := below_of_cls hw'
          clear hw'
          go_wp2_with fail
          go_roundw
          case rel => exact ⟨1, by omega, by go_num, fun j hj => by (obtain rfl : j = 0 := by omega); exact hst, hba.trans (hb2.mono hba.size)⟩
          case measure => simp [intOf]; omega
        · obtain ⟨_, _, c0, c1, c2, c3⟩ := (hA.up hbw hbw.size).hold (show m < l.length by omega)
          have qA := fun o d os => cells_wld (w := wr.alloc (.cells #[.int .i64 (hold l (m + 1)).order, .int .i64 (hold l (m + 1)).line, .int .i64 (hold l (m + 1)).bin, .int .i64 (hold l (m + 1)).n] 63)) (b := ablk A) (by simp; omega) o d os
          have hst := step_ord hf (step_fine (hall m (by omega)))
          by_cases ho : ord (hold l m) (hold l (m + 1)) < 0
          · have hst' := Lib.hid (show stepOk l (m + 1) = true by rw [hst]; simpa using ho)
            clear hst
            go_wp2_with fail
            refine wp_region_wld (by kernel_rfl) (by kernel_rfl) ?_
            repeat (go_big_quiet_step ((first | (go_at_call 106; refine calls_wld (hdFine (hold l (m + 1)) _)) | (go_at_call 107; refine calls_wld (hdOrder (hold l m) (hold l (m + 1)) _)))))
            refine wpQuiet_nil ?_
            intro W2 hw'
            have hb2 := below_of_cls hw'
            clear hw'
            go_wp2_with fail
            go_roundw
            case rel =>
              refine ⟨m + 2, by omega, by go_num, fun j hj => ?_, hba.trans (hb2.mono hba.size)⟩
              rcases Nat.lt_succ_iff_lt_or_eq.1 hj with h | rfl
              · exact hall j h
              · exact hst'.out
            case measure => simp [intOf]; omega
          · have hst' := Lib.hid (show stepOk l (m + 1) = false by rw [hst]; simpa using ho)
            have ho' : 0 ≤ ord (hold l m) (hold l (m + 1)) := by omega
            clear hst ho
            go_wp2_with fail
            refine wp_region_wld (by kernel_rfl) (by kernel_rfl) ?_
            repeat (go_big_quiet_step ((first | (go_at_call 106; refine calls_wld (hdFine (hold l (m + 1)) _)) | (go_at_call 107; refine calls_wld (hdOrder (hold l m) (hold l (m + 1)) _)))))
            refine wpQuiet_nil ?_
            intro W2 hw'
            have hb2 := below_of_cls hw'
            clear hw'
            go_wp2_with fail
            go_ret
            exact ⟨ret_int (holds_step hlt hst'.out).symm, hba.trans (hb2.mono hba.size)⟩
    · obtain rfl : k = l.length := by omega
      have hfin := Lib.hid (holds_all hall)
      go_wp2_with fail
      go_ret
      exact ⟨ret_int hfin.out.symm, hbw⟩

end Wh
namespace Wh
open Go Go.RowKit Go.Shelf Go.Proofs
attribute [local go_sem] run_indexAt_letter

theorem line_cases (o ln : Int) (h : Hold) : ((h.order == o) = false ∧ sameLine o ln h = false) ∨ ((h.order == o) = true ∧ (h.line == ln) = false ∧ sameLine o ln h = false) ∨
    ((h.order == o) = true ∧ (h.line == ln) = true ∧ sameLine o ln h = true) := by
  unfold sameLine
  by_cases h1 : h.order = o <;> by_cases h2 : h.line = ln <;> simp [h1, h2]
def keptTo (l : List Hold) (o ln : Int) (k : Nat) : Int := kept (l.take k) o ln
theorem keptTo_yes {l : List Hold} {o ln : Int} {k : Nat} (hk : k < l.length) (h : sameLine o ln (hold l k) = true) : keptTo l o ln (k + 1) = keptTo l o ln k + (hold l k).n := by
  unfold keptTo kept
  rw [List.take_succ_eq_append_getElem hk, List.filter_append, ← hold_get hk, List.filter_cons, h]
  simp
theorem keptTo_no {l : List Hold} {o ln : Int} {k : Nat} (hk : k < l.length) (h : sameLine o ln (hold l k) = false) : keptTo l o ln (k + 1) = keptTo l o ln k := by
  unfold keptTo kept
  rw [List.take_succ_eq_append_getElem hk, List.filter_append, ← hold_get hk, List.filter_cons, h]
  simp
theorem ok_take {l : List Hold} (h : holdsOk l = true) (k : Nat) : holdsOk (l.take k) = true := by
  obtain ⟨g1, g2⟩ := holdsOk_iff.1 h
  exact holdsOk_iff.2 ⟨fun x hx => g1 x (List.mem_of_mem_take hx), g2.sublist (List.take_sublist k l)⟩
theorem check_ok {l : List Hold} : checkHolds l = 0 ↔ holdsOk l = true := by
  unfold checkHolds
  cases holdsOk l <;> simp

set_option maxHeartbeats 1000000 in
theorem hdKept (w : World) (v : Value) (l : List Hold) (o ln : Int) (hv : Sl cHold w w.heap.size v l) :
    Calls Try.prog 25 #[v, .int .i64 o, .int .i64 ln] w fun e w' => e = .returned (.tuple #[.int .i64 (keptE l o ln).1, .int .i64 (keptE l o ln).2]) ∧ Below w.heap.size w w' := by
  have hV := hv
  obtain ⟨A, c, rfl, hl, hA⟩ := hv
  go_enter Try.func25, Try.ntmps25
  go_wp2_with fail
  refine (hdCheck _ _ _ hV).mono ?_
  rintro e W1 ⟨rfl, hb1⟩
  cases hok : holdsOk l
  · have hc : checkHolds l = 1 := by unfold checkHolds; rw [hok]; rfl
    have hk : keptE l o ln = (0, 1) := by unfold keptE; rw [hok]; rfl
    have hk' := Lib.hid hk
    rw [hc]
    clear hc hk
    go_wp2_with fail
    go_ret2
    exact ⟨ret2 (by rw [hk'.out]; rfl) (by rw [hk'.out]; rfl), hb1⟩
  · have hc : checkHolds l = 0 := check_ok.2 hok
    have hk : keptE l o ln = (kept l o ln, 0) := by unfold keptE; rw [hok]; rfl
    have hrg := fun k => kept_range (ok_take hok k) o ln
    have hrg' := Lib.hid hrg
    have hk' := Lib.hid hk
    rw [hc]
    clear hc hk hok hrg
    go_wp2_with fail
    go_loopw [9, 19, 11] (fun n i _ wr => ∃ k : Nat, k ≤ l.length ∧ i = .int .i64 k ∧ n = .int .i64 (keptTo l o ln k) ∧ Below W1.heap.size W1 wr) (fun _ i _ _ => l.length - (intOf i).toNat)
    case atStart => exact ⟨0, Nat.zero_le _, rfl, rfl, Below.refl _ _⟩
    case round =>
      obtain ⟨k, hk, rfl, rfl, hbw⟩ := hrel
      obtain ⟨u1, u2⟩ := hrg'.out k
      change 0 ≤ keptTo l o ln k at u1
      change keptTo l o ln k ≤ 1200 at u2
      by_cases hlt : k < l.length
      · have hb01 := hb1.trans (hbw.mono hb1.size)
        obtain ⟨hok, hAb, b0, b1, b2, b3⟩ := (hA.up hb01 hb01.size).hold hlt
        obtain ⟨u3, u4⟩ := hrg'.out (k + 1)
        change 0 ≤ keptTo l o ln (k + 1) at u3
        change keptTo l o ln (k + 1) ≤ 1200 at u4
        rcases line_cases o ln (hold l k) with ⟨g1, hs⟩ | ⟨g1, g2, hs⟩ | ⟨g1, g2, hs⟩
        · have hs' := Lib.hid (keptTo_no hlt hs)
          clear hs
          go_wp2_with fail
          go_roundw
          case rel => exact ⟨k + 1, by omega, by go_num, by rw [hs'.out], hbw.alloc hbw.size _⟩
          case measure => simp [intOf]; omega
        · have hs' := Lib.hid (keptTo_no hlt hs)
          clear hs
          go_wp2_with fail
          go_roundw
          case rel => exact ⟨k + 1, by omega, by go_num, by rw [hs'.out], hbw.alloc hbw.size _⟩
          case measure => simp [intOf]; omega
        · have hs' := Lib.hid (keptTo_yes hlt hs)
          rw [hs'.out] at u3 u4
          clear hs
          go_wp2_with fail
          go_roundw
          case rel => exact ⟨k + 1, by omega, by go_num, by rw [hs'.out], hbw.alloc hbw.size _⟩
          case measure => simp [intOf]; omega
      · obtain rfl : k = l.length := by omega
        have hfin := Lib.hid (show keptTo l o ln l.length = kept l o ln by unfold keptTo; rw [List.take_length])
        go_wp2_with fail
        go_ret2
        exact ⟨ret2 (by rw [hk'.out, ← hfin.out]; rfl) (by rw [hk'.out]; rfl), hb1.trans (hbw.mono hb1.size)⟩

end Wh
namespace Wh
open Go Go.RowKit Go.Shelf Go.Proofs
attribute [local go_sem] run_indexAt_letter

theorem SlSl.nil {w : World} {B : Nat} : SlSl cInt w B (.slice none 0 0) [] := ⟨none, 0, [], rfl, by simp, rfl, At.nil, fun i x h => by simp at h⟩
end Wh
namespace Wh
open Go Go.RowKit Go.Shelf Go.Proofs
attribute [local go_sem] run_indexAt_letter

set_option maxHeartbeats 1000000 in
theorem lYard (w : World) : Calls Try.prog 47 #[] w (Gives (fun u w' => PlanV w' w'.heap.size u yardP) w) := by
  go_enter Try.func47, Try.ntmps47
  go_wp2_with fail
  refine bodyPost_ret (v := .agg #[.slice (some ⟨w.heap.size + 1, 0, none⟩) 3 3, .slice (some ⟨w.heap.size + 1 + 1, 0, none⟩) 2 2]) (by simp [results, Try.results47, go_sem]) rfl ?_
  have b1 := Own.lit (base := 0) (enc := cBin) (size := 4) (w.alloc (.cells #[.slice (some ⟨w.heap.size + 1, 0, none⟩) 3 3, .slice (some ⟨w.heap.size + 1 + 1, 0, none⟩) 2 2] 25)) 42
    #[.bool false, .int .i64 100, .int .i64 0, .int .i64 0, .bool true, .int .i64 30, .int .i64 4, .int .i64 8, .bool false, .int .i64 60, .int .i64 0, .int .i64 0] yardP.bins (Nat.zero_le _) (by decide) (fun _ => rfl) rfl
  have b2 := b1.alloc (.cells #[.int .i64 2, .int .i64 3] 3)
  have b3 := Own.lit (base := 0) (enc := cInt) (size := 1) ((w.alloc (.cells #[.slice (some ⟨w.heap.size + 1, 0, none⟩) 3 3, .slice (some ⟨w.heap.size + 1 + 1, 0, none⟩) 2 2] 25)).alloc
    (.cells #[.bool false, .int .i64 100, .int .i64 0, .int .i64 0, .bool true, .int .i64 30, .int .i64 4, .int .i64 8, .bool false, .int .i64 60, .int .i64 0, .int .i64 0] 42)) 3 #[.int .i64 2, .int .i64 3] yardP.sizes (Nat.zero_le _) (by decide) (fun _ => rfl) rfl
  simp only [World.size_alloc] at b2 b3
  exact ⟨_, rfl, ⟨_, _, rfl, b2.sl (by decide), b3.sl (by decide)⟩, (((Below.refl _ _).alloc (Nat.le_refl _) _).alloc (by simp) _).alloc (by simp; omega) _⟩

end Wh
namespace Wh
open Go Go.RowKit Go.Shelf Go.Proofs
attribute [local go_sem] run_indexAt_letter

theorem Blk.two (w : World) (cs cs' : Array Value) (e e' : TypeId) : Blk ((w.alloc (.cells cs e)).alloc (.cells cs' e')).drew (w.heap.size + 1) e' cs'.toList := by
  have := Blk.new (w.alloc (.cells cs e)) e' cs'
  have h : Blk ((w.alloc (.cells cs e)).alloc (.cells cs' e')) (w.heap.size + 1) e' cs'.toList := by simpa using this
  exact h.drew
theorem Sl.len {α : Type} {enc : α → List Value} {w : World} {B : Nat} {v : Value} {l : List α} (h : Sl enc w B v l) : l.length ≤ 140737488355232 := let ⟨_, _, _, h, _⟩ := h; h
end Wh
namespace Wh
open Go Go.RowKit Go.Shelf Go.Proofs
attribute [local go_sem] run_indexAt_letter

theorem line_parts (p : Plan) (x : Line) : (isGood p x.good = false ∧ lineOk p x = false) ∨ (isGood p x.good = true ∧ x.want < 1 ∧ lineOk p x = false) ∨ (isGood p x.good = true ∧ 1 ≤ x.want ∧ 200 < x.want ∧ lineOk p x = false) ∨
    (isGood p x.good = true ∧ 1 ≤ x.want ∧ x.want ≤ 200 ∧ x.got < 0 ∧ lineOk p x = false) ∨ (isGood p x.good = true ∧ 1 ≤ x.want ∧ x.want ≤ 200 ∧ 0 ≤ x.got ∧ x.want < x.got ∧ lineOk p x = false) ∨
    (isGood p x.good = true ∧ 1 ≤ x.want ∧ x.want ≤ 200 ∧ 0 ≤ x.got ∧ x.got ≤ x.want ∧ x.back < 0 ∧ lineOk p x = false) ∨ (isGood p x.good = true ∧ 1 ≤ x.want ∧ x.want ≤ 200 ∧ 0 ≤ x.got ∧ x.got ≤ x.want ∧ 0 ≤ x.back ∧ x.want < x.back ∧ lineOk p x = false) ∨
    (isGood p x.good = true ∧ 1 ≤ x.want ∧ x.want ≤ 200 ∧ 0 ≤ x.got ∧ x.got ≤ x.want ∧ 0 ≤ x.back ∧ x.back ≤ x.want ∧ lineOk p x = true) := by
  have h1 := @lineOk_iff p x
  have h2 := @isGood_iff p x.good
  cases hl : lineOk p x <;> cases hg : isGood p x.good <;> simp only [hl, hg, Bool.false_eq_true, false_iff, true_iff] at h1 h2 <;> simp only [reduceCtorEq, true_and, and_true, false_and, and_false, or_false, false_or] <;> omega

set_option maxHeartbeats 4000000 in
theorem sLine (w : World) (v : Value) (p : Plan) (x : Line) (hp : PlanV w w.heap.size v p) (hz : checkPlan p = 0) :
    Calls Try.prog 91 #[v, vLine x] w fun e w' => e = .returned (.bool (lineOk p x)) ∧ Below w.heap.size w w' := by
  have hP := hp
  obtain ⟨_, _, rfl, ⟨Ab, cb, rfl, hlb, hb⟩, ⟨As, cs, rfl, hls, hs⟩⟩ := hp
  have hb1 : isBin p 0 = true := isBin_iff.2 (by have := right_counts hz; omega)
  have hb0 : Below w.heap.size w ((w.alloc (.cells #[.slice Ab p.bins.length cb, .slice As p.sizes.length cs] 25)).alloc (.cells #[.int .i64 (x).good, .int .i64 (x).want, .int .i64 (x).got, .int .i64 (x).back] 56)) := ((Below.refl _ _).alloc (Nat.le_refl _) _).alloc (by simp) _
  unfold vLine
  rcases line_parts p x with ⟨g1, hf⟩ | ⟨g1, g2, hf⟩ | ⟨g1, g2, g3, hf⟩ | ⟨g1, g2, g3, g4, hf⟩ | ⟨g1, g2, g3, g4, g5, hf⟩ | ⟨g1, g2, g3, g4, g5, g6, hf⟩ | ⟨g1, g2, g3, g4, g5, g6, g7, hf⟩ | ⟨g1, g2, g3, g4, g5, g6, g7, hf⟩
  all_goals
    have hth : (isBin p 0 && isGood p x.good) = (isGood p x.good) := by rw [hb1]; rfl
    have hth' := Lib.hid hth
    clear hth
    have hf' := Lib.hid hf
    clear hf
    go_enter Try.func91, Try.ntmps91
    go_wp2_with fail
    refine (shThere _ _ p 0 x.good (hP.grow hb0)).mono ?_
    rintro e W1 ⟨rfl, hc1⟩
    have hB := hb0.trans (hc1.mono hb0.size)
    obtain ⟨ha1, hf1⟩ := bcell hc1
    rw [hth'.out, g1]
    go_wp2_with fail
    go_ret
    exact ⟨ret_bool (by rw [hf'.out] <;> first | rfl | (simp <;> omega)), hB⟩

set_option maxHeartbeats 2000000 in
theorem sSums (w : World) (v vl : Value) (p : Plan) (l : List Int) (lo : Int) (hp : PlanV w w.heap.size v p) (hl : Sl cInt w w.heap.size vl l) (hz : checkPlan p = 0) :
    Calls Try.prog 98 #[v, vl, .int .i64 lo] w fun e w' => e = .returned (.bool (sumsOk p l lo)) ∧ Below w.heap.size w w' := by
  have hP := hp
  obtain ⟨_, _, rfl, ⟨Ab, cb, rfl, hlb, hb⟩, ⟨As, cs, rfl, hls, hs⟩⟩ := hp
  have hL := hl
  obtain ⟨A, c, rfl, hll, hA⟩ := hl
  have hcnt := right_counts hz
  have hb0 : Below w.heap.size w (w.alloc (.cells #[.slice Ab p.bins.length cb, .slice As p.sizes.length cs] 25)) := (Below.refl _ _).alloc (Nat.le_refl _) _
  rcases sumsOk_bad (p := p) l lo (by omega) with ⟨h1, h⟩ | ⟨h1, h2, h⟩ | ⟨h1, h2, h3, h⟩ | ⟨h1, h2, h3, h⟩
  · have hne : ((l.length : Int) == (p.sizes.length : Int)) = false := by simp; omega
    have h' := Lib.hid h
    clear h h1
    go_enter Try.func98, Try.ntmps98
    go_wp2_with fail
    go_ret
    exact ⟨ret_bool (by rw [h'.out]), hb0⟩
  all_goals
    have hne : ((l.length : Int) == (p.sizes.length : Int)) = true := by simp; omega
    have hpos : 0 < l.length := by omega
    have h' := Lib.hid h
    clear h h1
    go_enter Try.func98, Try.ntmps98
    go_wp2_with (first | (go_at_call 86; refine (slMin _ _ l (hL.grow hb0) hpos).mono ?_; rintro e w' ⟨rfl, rfl⟩) | (go_at_call 87; refine (slMax _ _ l (hL.grow hb0) hpos).mono ?_; rintro e w' ⟨rfl, rfl⟩))
    go_ret
    exact ⟨ret_bool (by rw [h'.out] <;> first | rfl | (simp <;> omega)), hb0⟩

set_option maxHeartbeats 1000000 in
/-- formed's first closure: a line that may not be. -/
theorem sBadLine (p : Plan) (x : Line) (W : World) (B : Nat) (hz : checkPlan p = 0) (Ab As : Option Addr) (cb cs : Nat) (h0 : W.cell? ⟨B, 0, none⟩ = some (.slice Ab p.bins.length cb)) (h1 : W.cell? ⟨B, 1, none⟩ = some (.slice As p.sizes.length cs)) (hB : B < W.heap.size)
    (hP : PlanV W W.heap.size (.agg #[.slice Ab p.bins.length cb, .slice As p.sizes.length cs]) p) :
    Calls Try.prog 90 #[vLine x, .pointer (some ⟨B, 0, none⟩)] W fun e W' => e = .returned (.bool (!lineOk p x)) ∧ Below W.heap.size W W' := by
  have hb0 : Below W.heap.size W (W.alloc (.cells #[.int .i64 (x).good, .int .i64 (x).want, .int .i64 (x).got, .int .i64 (x).back] 56)) := (Below.refl _ _).alloc (Nat.le_refl _) _
  have hz' := Lib.hid hz
  clear hz
  unfold vLine
  go_enter Try.func90, Try.ntmps90
  go_wp2_with fail
  refine (sLine _ _ p x (hP.grow hb0) hz'.out).mono ?_
  rintro e W1 ⟨rfl, hc1⟩
  go_wp2_with fail
  go_ret
  exact ⟨rfl, hb0.trans (hc1.mono hb0.size)⟩
theorem entersBadLine : Enters Try.prog 90 := enters_of Try.func90 (by kernel_rfl) rfl

theorem holdIn_parts (p : Plan) (s : State) (h : Hold) : ((s.orders.length : Int) ≤ h.order ∧ holdIn p s h = false) ∨ (h.order < s.orders.length ∧ ((s.order h.order.toNat).lines.length : Int) ≤ h.line ∧ holdIn p s h = false) ∨
    (h.order < s.orders.length ∧ h.line < (s.order h.order.toNat).lines.length ∧ (p.bins.length : Int) ≤ h.bin ∧ holdIn p s h = false) ∨ (h.order < s.orders.length ∧ h.line < (s.order h.order.toNat).lines.length ∧ h.bin < p.bins.length ∧ holdIn p s h = true) := by
  have h1 := @holdIn_iff p s h
  cases hl : holdIn p s h <;> simp only [hl, Bool.false_eq_true, false_iff, true_iff] at h1 <;> simp only [reduceCtorEq, and_true, and_false, or_false, false_or] <;> omega

set_option maxHeartbeats 4000000 in
/-- formed's second closure: is there such a line, and such a bin? -/
theorem sHoldIn (p : Plan) (s : State) (h : Hold) (W : World) (Bs Bp : Nat) (A1 Ab : Option Addr) (c1 cb : Nat) (hs1 : W.cell? ⟨Bs, 1, none⟩ = some (.slice A1 s.orders.length c1)) (hp0 : W.cell? ⟨Bp, 0, none⟩ = some (.slice Ab p.bins.length cb)) (hBs : Bs < W.heap.size) (hBp : Bp < W.heap.size)
    (hO : SlOrders W W.heap.size (.slice A1 s.orders.length c1) s.orders) (h0 : 0 ≤ h.order) (h72 : s.orders.length ≤ 1000) (hl72 : ∀ o, o < s.orders.length → (orderAt s.orders o).lines.length ≤ 1000) :
    Calls Try.prog 92 #[vHold h, .pointer (some ⟨Bs, 0, none⟩), .pointer (some ⟨Bp, 0, none⟩)] W fun e W' => e = .returned (.bool (holdIn p s h)) ∧ Below W.heap.size W W' := by
  have hb0 : Below W.heap.size W (W.alloc (.cells #[.int .i64 (h).order, .int .i64 (h).line, .int .i64 (h).bin, .int .i64 (h).n] 63)) := (Below.refl _ _).alloc (Nat.le_refl _) _
  have hlW : W.heap.size < (W.alloc (.cells #[.int .i64 (h).order, .int .i64 (h).line, .int .i64 (h).bin, .int .i64 (h).n] 63)).heap.size := by simp
  have q0 := fun o d os => cells_wld (w := W.alloc (.cells #[.int .i64 (h).order, .int .i64 (h).line, .int .i64 (h).bin, .int .i64 (h).n] 63)) (b := Bs) (by simp; omega) o d os
  have q1 := fun o d os => cells_wld (w := W.alloc (.cells #[.int .i64 (h).order, .int .i64 (h).line, .int .i64 (h).bin, .int .i64 (h).n] 63)) (b := Bp) (by simp; omega) o d os
  have q2 := fun o d os => cells_wld (w := W.alloc (.cells #[.int .i64 (h).order, .int .i64 (h).line, .int .i64 (h).bin, .int .i64 (h).n] 63)) (b := W.heap.size) hlW o d os
  unfold vHold
  rcases holdIn_parts p s h with ⟨g1, hf⟩ | ⟨g1, g2, hf⟩ | ⟨g1, g2, g3, hf⟩ | ⟨g1, g2, g3, hf⟩
  · have hf' := Lib.hid hf
    have d1 : decide (h.order < (s.orders.length : Int)) = false := by simpa using g1
    clear hf hl72
    go_enter Try.func92, Try.ntmps92
    go_wp2_with fail
    refine wp_region_wld (by kernel_rfl) (by kernel_rfl) ?_
    repeat (go_big_quiet_step (fail))
    refine wpQuiet_nil ?_
    intro W2 hw'
    have hb2 := below_of_cls hw'
    clear hw'
    go_wp2_with fail
    go_ret
    exact ⟨ret_bool (by rw [hf'.out]), hb0.trans (hb2.mono hb0.size)⟩
  · have hf' := Lib.hid hf
    have hol : h.order.toNat < s.orders.length := by omega
    obtain ⟨A', c', hok1, hAb1, _, e1, hsl⟩ := hO.order hol
    have hll := hl72 _ hol
    unfold State.order at g2
    have q3 := fun o d os => cells_wld (w := W.alloc (.cells #[.int .i64 (h).order, .int .i64 (h).line, .int .i64 (h).bin, .int .i64 (h).n] 63)) (b := ablk A1) (by simp; omega) o d os
    have d1 : decide (h.order < (s.orders.length : Int)) = true := by simpa using g1
    have d2 : decide (h.line < ((orderAt s.orders h.order.toNat).lines.length : Int)) = false := by simpa using g2
    clear hf hl72
    go_enter Try.func92, Try.ntmps92
    go_wp2_with fail
    refine wp_region_wld (by kernel_rfl) (by kernel_rfl) ?_
    repeat (go_big_quiet_step (fail))
    refine wpQuiet_nil ?_
    intro W2 hw'
    have hb2 := below_of_cls hw'
    clear hw'
    go_wp2_with fail
    go_ret
    exact ⟨ret_bool (by rw [hf'.out] <;> first | rfl | (simp <;> omega)), hb0.trans (hb2.mono hb0.size)⟩
  · have hf' := Lib.hid hf
    have hol : h.order.toNat < s.orders.length := by omega
    obtain ⟨A', c', hok1, hAb1, _, e1, hsl⟩ := hO.order hol
    have hll := hl72 _ hol
    unfold State.order at g2
    have q3 := fun o d os => cells_wld (w := W.alloc (.cells #[.int .i64 (h).order, .int .i64 (h).line, .int .i64 (h).bin, .int .i64 (h).n] 63)) (b := ablk A1) (by simp; omega) o d os
    have d1 : decide (h.order < (s.orders.length : Int)) = true := by simpa using g1
    have d2 : decide (h.line < ((orderAt s.orders h.order.toNat).lines.length : Int)) = true := by simpa using g2
    have d3 : decide (h.bin < (p.bins.length : Int)) = false := by simpa using g3
    clear hf hl72
    go_enter Try.func92, Try.ntmps92
    go_wp2_with fail
    refine wp_region_wld (by kernel_rfl) (by kernel_rfl) ?_
    repeat (go_big_quiet_step (fail))
    refine wpQuiet_nil ?_
    intro W2 hw'
    have hb2 := below_of_cls hw'
    clear hw'
    go_wp2_with fail
    go_ret
    exact ⟨ret_bool (by rw [hf'.out] <;> first | rfl | (simp <;> omega)), hb0.trans (hb2.mono hb0.size)⟩
  · have hf' := Lib.hid hf
    have hol : h.order.toNat < s.orders.length := by omega
    obtain ⟨A', c', hok1, hAb1, _, e1, hsl⟩ := hO.order hol
    have hll := hl72 _ hol
    unfold State.order at g2
    have q3 := fun o d os => cells_wld (w := W.alloc (.cells #[.int .i64 (h).order, .int .i64 (h).line, .int .i64 (h).bin, .int .i64 (h).n] 63)) (b := ablk A1) (by simp; omega) o d os
    have d1 : decide (h.order < (s.orders.length : Int)) = true := by simpa using g1
    have d2 : decide (h.line < ((orderAt s.orders h.order.toNat).lines.length : Int)) = true := by simpa using g2
    have d3 : decide (h.bin < (p.bins.length : Int)) = true := by simpa using g3
    clear hf hl72
    go_enter Try.func92, Try.ntmps92
    go_wp2_with fail
    refine wp_region_wld (by kernel_rfl) (by kernel_rfl) ?_
    repeat (go_big_quiet_step (fail))
    refine wpQuiet_nil ?_
    intro W2 hw'
    have hb2 := below_of_cls hw'
    clear hw'
    go_wp2_with fail
    go_ret
    exact ⟨ret_bool (by rw [hf'.out] <;> first | rfl | (simp <;> omega)), hb0.trans (hb2.mono hb0.size)⟩
end Wh
namespace Wh
open Go Go.RowKit Go.Shelf Go.Proofs
attribute [local go_sem] run_indexAt_letter

theorem move_parts (p : Plan) (x : Move) : ((isBin p x.src && isGood p x.good) = false ∧ moveOk p x = false) ∨ ((isBin p x.src && isGood p x.good) = true ∧ (isBin p x.dst && isGood p x.good) = false ∧ moveOk p x = false) ∨
    ((isBin p x.src && isGood p x.good) = true ∧ (isBin p x.dst && isGood p x.good) = true ∧ (x.src != x.dst) = false ∧ moveOk p x = false) ∨
    ((isBin p x.src && isGood p x.good) = true ∧ (isBin p x.dst && isGood p x.good) = true ∧ (x.src != x.dst) = true ∧ x.n < 1 ∧ moveOk p x = false) ∨
    ((isBin p x.src && isGood p x.good) = true ∧ (isBin p x.dst && isGood p x.good) = true ∧ (x.src != x.dst) = true ∧ 1 ≤ x.n ∧ 200 < x.n ∧ moveOk p x = false) ∨
    ((isBin p x.src && isGood p x.good) = true ∧ (isBin p x.dst && isGood p x.good) = true ∧ (x.src != x.dst) = true ∧ 1 ≤ x.n ∧ x.n ≤ 200 ∧ moveOk p x = true) := by
  unfold moveOk
  have hw := @within_iff x.n 1 200
  cases isBin p x.src <;> cases isGood p x.good <;> cases isBin p x.dst <;> by_cases h : x.src = x.dst <;> cases hq : within x.n 1 200 <;> simp [h, hq] at hw ⊢ <;> omega

set_option maxHeartbeats 4000000 in
theorem sMoveOk (p : Plan) (x : Move) (W : World) (B : Nat) (Ab As : Option Addr) (cb cs : Nat) (h0 : W.cell? ⟨B, 0, none⟩ = some (.slice Ab p.bins.length cb)) (h1 : W.cell? ⟨B, 1, none⟩ = some (.slice As p.sizes.length cs)) (hB : B < W.heap.size)
    (hP : PlanV W W.heap.size (.agg #[.slice Ab p.bins.length cb, .slice As p.sizes.length cs]) p) :
    Calls Try.prog 93 #[vMove x, .pointer (some ⟨B, 0, none⟩)] W fun e W' => e = .returned (.bool (moveOk p x)) ∧ Below W.heap.size W W' := by
  have hb0 : Below W.heap.size W (W.alloc (.cells #[.int .i64 (x).good, .int .i64 (x).src, .int .i64 (x).dst, .int .i64 (x).n] 40)) := (Below.refl _ _).alloc (Nat.le_refl _) _
  have hBl : B < (W.alloc (.cells #[.int .i64 (x).good, .int .i64 (x).src, .int .i64 (x).dst, .int .i64 (x).n] 40)).heap.size := by simp; omega
  unfold vMove
  rcases move_parts p x with ⟨g1, hf⟩ | ⟨g1, g2, hf⟩ | ⟨g1, g2, g3, hf⟩ | ⟨g1, g2, g3, g4, hf⟩ | ⟨g1, g2, g3, g4, g5, hf⟩ | ⟨g1, g2, g3, g4, g5, hf⟩
  · have hf' := Lib.hid hf
    have g1' := Lib.hid g1
    clear hf g1
    go_enter Try.func93, Try.ntmps93
    go_wp2_with fail
    refine (shThere _ _ p x.src x.good (hP.grow hb0)).mono ?_
    rintro e W1 ⟨rfl, hc1⟩
    rw [g1'.out]
    go_wp2_with fail
    go_ret
    exact ⟨ret_bool (by rw [hf'.out]), hb0.trans (hc1.mono hb0.size)⟩
  all_goals
    have hf' := Lib.hid hf
    have g1' := Lib.hid g1
    have g2' := Lib.hid g2
    clear hf g1 g2
    go_enter Try.func93, Try.ntmps93
    go_wp2_with fail
    refine (shThere _ _ p x.src x.good (hP.grow hb0)).mono ?_
    rintro e W1 ⟨rfl, hc1⟩
    have hb01 := hb0.trans (hc1.mono hb0.size)
    obtain ⟨hd1, hf1⟩ := bcell hc1
    rw [g1'.out]
    go_wp2_with fail
    refine (shThere _ _ p x.dst x.good (hP.grow hb01)).mono ?_
    rintro e W2 ⟨rfl, hc2⟩
    have hc12 := hc1.trans (hc2.mono hc1.size)
    obtain ⟨hd2, hf2⟩ := bcell hc12
    clear hd1 hf1
    rw [g2'.out]
    go_wp2_with fail
    go_ret
    exact ⟨ret_bool (by rw [hf'.out] <;> first | rfl | (simp <;> omega)), hb0.trans (hc12.mono hb0.size)⟩

set_option maxHeartbeats 1000000 in
/-- formed's closures over closures. -/
theorem sBadHold (p : Plan) (s : State) (h : Hold) (W : World) (Bc Bs Bp : Nat) (A1 Ab : Option Addr) (c1 cb : Nat) (hc : W.cell? ⟨Bc, 0, none⟩ = some (.func (.func 92) #[] #[.pointer (some ⟨Bs, 0, none⟩), .pointer (some ⟨Bp, 0, none⟩)])) (hBc : Bc < W.heap.size)
    (hs1 : W.cell? ⟨Bs, 1, none⟩ = some (.slice A1 s.orders.length c1)) (hp0 : W.cell? ⟨Bp, 0, none⟩ = some (.slice Ab p.bins.length cb)) (hBs : Bs < W.heap.size) (hBp : Bp < W.heap.size)
    (hO : SlOrders W W.heap.size (.slice A1 s.orders.length c1) s.orders) (h0 : 0 ≤ h.order) (h72 : s.orders.length ≤ 1000) (hl72 : ∀ o, o < s.orders.length → (orderAt s.orders o).lines.length ≤ 1000) :
    Calls Try.prog 95 #[vHold h, .pointer (some ⟨Bc, 0, none⟩)] W fun e W' => e = .returned (.bool (!holdIn p s h)) ∧ Below W.heap.size W W' := by
  have hb0 : Below W.heap.size W (W.alloc (.cells #[.int .i64 (h).order, .int .i64 (h).line, .int .i64 (h).bin, .int .i64 (h).n] 63)) := (Below.refl _ _).alloc (Nat.le_refl _) _
  have hl' := Lib.hid hl72
  have r1 : (W.alloc (.cells #[.int .i64 (h).order, .int .i64 (h).line, .int .i64 (h).bin, .int .i64 (h).n] 63)).cell? ⟨Bs, 1, none⟩ = some (.slice A1 s.orders.length c1) := (hb0.cell (p := ⟨Bs, 1, none⟩) hBs).trans hs1
  have r2 : (W.alloc (.cells #[.int .i64 (h).order, .int .i64 (h).line, .int .i64 (h).bin, .int .i64 (h).n] 63)).cell? ⟨Bp, 0, none⟩ = some (.slice Ab p.bins.length cb) := (hb0.cell (p := ⟨Bp, 0, none⟩) hBp).trans hp0
  have H := Lib.hid (sHoldIn p s h (W.alloc (.cells #[.int .i64 (h).order, .int .i64 (h).line, .int .i64 (h).bin, .int .i64 (h).n] 63)) Bs Bp A1 Ab c1 cb r1 r2 (by simp; omega) (by simp; omega) (hO.up hb0 hb0.size) h0 h72 hl72)
  clear hl72 r1 r2
  unfold vHold
  go_enter Try.func95, Try.ntmps95
  go_wp2_with fail
  refine H.out.mono ?_
  rintro e W1 ⟨rfl, hc1⟩
  go_wp2_with fail
  go_ret
  exact ⟨rfl, hb0.trans (hc1.mono hb0.size)⟩
theorem entersBadHold : Enters Try.prog 95 := enters_of Try.func95 (by kernel_rfl) rfl

set_option maxHeartbeats 1000000 in
theorem sBadMove (p : Plan) (x : Move) (W : World) (Bc B : Nat) (Ab As : Option Addr) (cb cs : Nat) (hc : W.cell? ⟨Bc, 0, none⟩ = some (.func (.func 93) #[] #[.pointer (some ⟨B, 0, none⟩)])) (hBc : Bc < W.heap.size)
    (h0 : W.cell? ⟨B, 0, none⟩ = some (.slice Ab p.bins.length cb)) (h1 : W.cell? ⟨B, 1, none⟩ = some (.slice As p.sizes.length cs)) (hB : B < W.heap.size)
    (hP : PlanV W W.heap.size (.agg #[.slice Ab p.bins.length cb, .slice As p.sizes.length cs]) p) :
    Calls Try.prog 97 #[vMove x, .pointer (some ⟨Bc, 0, none⟩)] W fun e W' => e = .returned (.bool (!moveOk p x)) ∧ Below W.heap.size W W' := by
  have hb0 : Below W.heap.size W (W.alloc (.cells #[.int .i64 (x).good, .int .i64 (x).src, .int .i64 (x).dst, .int .i64 (x).n] 40)) := (Below.refl _ _).alloc (Nat.le_refl _) _
  have r1 : (W.alloc (.cells #[.int .i64 (x).good, .int .i64 (x).src, .int .i64 (x).dst, .int .i64 (x).n] 40)).cell? ⟨B, 0, none⟩ = some (.slice Ab p.bins.length cb) := (hb0.cell (p := ⟨B, 0, none⟩) hB).trans h0
  have r2 : (W.alloc (.cells #[.int .i64 (x).good, .int .i64 (x).src, .int .i64 (x).dst, .int .i64 (x).n] 40)).cell? ⟨B, 1, none⟩ = some (.slice As p.sizes.length cs) := (hb0.cell (p := ⟨B, 1, none⟩) hB).trans h1
  have H := Lib.hid (sMoveOk p x (W.alloc (.cells #[.int .i64 (x).good, .int .i64 (x).src, .int .i64 (x).dst, .int .i64 (x).n] 40)) B Ab As cb cs r1 r2 (by simp; omega) (hP.grow hb0))
  clear r1 r2
  unfold vMove
  go_enter Try.func97, Try.ntmps97
  go_wp2_with fail
  refine H.out.mono ?_
  rintro e W1 ⟨rfl, hc1⟩
  go_wp2_with fail
  go_ret
  exact ⟨rfl, hb0.trans (hc1.mono hb0.size)⟩
theorem entersBadMove : Enters Try.prog 97 := enters_of Try.func97 (by kernel_rfl) rfl

set_option maxHeartbeats 1000000 in
/-- Check's closure: too few lines, or too many. -/
theorem sBadOrder (o : Order) (u : Value) (W : World) (hu : Sl cLine W W.heap.size u o.lines) :
    Calls Try.prog 55 #[.agg #[.int .i64 o.kind, u]] W fun e W' => e = .returned (.bool (!within o.lines.length 1 3)) ∧ Below W.heap.size W W' := by
  obtain ⟨A, c, rfl, hl, hA⟩ := hu
  have hb0 : Below W.heap.size W (W.alloc (.cells #[.int .i64 o.kind, .slice A o.lines.length c] 53)) := (Below.refl _ _).alloc (Nat.le_refl _) _
  have hp : (o.lines.length < 1 ∧ within o.lines.length 1 3 = false) ∨ (1 ≤ o.lines.length ∧ 3 < o.lines.length ∧ within o.lines.length 1 3 = false) ∨ (1 ≤ o.lines.length ∧ o.lines.length ≤ 3 ∧ within o.lines.length 1 3 = true) := by
    have h1 := @within_iff o.lines.length 1 3
    cases hq : within o.lines.length 1 3 <;> simp only [hq, Bool.false_eq_true, false_iff, true_iff] at h1 <;> simp only [reduceCtorEq, and_true, and_false, or_false, false_or] <;> omega
  rcases hp with ⟨g1, hf⟩ | ⟨g1, g2, hf⟩ | ⟨g1, g2, hf⟩
  all_goals
    have hf' := Lib.hid hf
    clear hf
    go_enter Try.func55, Try.ntmps55
    go_wp2_with fail
    go_ret
    exact ⟨ret_bool (by rw [hf'.out] <;> first | rfl | (simp <;> omega)), hb0⟩
theorem entersBadOrder : Enters Try.prog 55 := enters_of Try.func55 (by kernel_rfl) rfl
end Wh
