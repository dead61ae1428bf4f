/- Texts of the claim, joined: WalkG, WalkI, WalkJ, LibSl. -/
import Derived.Lib.SliceRun
import Derived.Deep.RegionLaw
import Derived.Test.YtfhfkijmebhgmaaGreatQ07
import Derived.Test.YtfhfkijmebhgmaaGreatQ02
import Derived.Test.YtfhfkijmebhgmaaGreatQ03
namespace Wh
open Go Go.RowKit Go.Shelf Go.Proofs
attribute [local go_sem] run_indexAt_letter

theorem shelfError_check {p : Plan} {on : List (List Int)} {b g : Int} (h : checkShelf p on ≠ 0) : shelfError p on b g = checkShelf p on := by
  unfold shelfError
  rw [if_pos h]
theorem shelfError_there {p : Plan} {on : List (List Int)} {b g : Int} (h : checkShelf p on = 0) (h2 : (isBin p b && isGood p g) = false) : shelfError p on b g = 3 := by
  unfold shelfError
  simp [h, h2]
theorem shelfError_ok {p : Plan} {on : List (List Int)} {b g : Int} (h : checkShelf p on = 0) (h2 : (isBin p b && isGood p g) = true) : shelfError p on b g = 0 := by
  unfold shelfError
  simp [h, h2]

set_option maxHeartbeats 1000000 in
theorem shelfAsked (w : World) (v vo : Value) (p : Plan) (on : List (List Int)) (b g : Int) (hp : PlanV w w.heap.size v p) (ho : SlSl cInt w w.heap.size vo on) :
    Calls Tryz.prog 143 #[v, vo, .int .i64 b, .int .i64 g] w fun e w' => e = .returned (.int .i64 (shelfError p on b g)) ∧ Below w.heap.size w w' := by
  have hP := hp
  have hO := ho
  obtain ⟨_, _, rfl, ⟨Ab, cb, rfl, hlb, hb⟩, ⟨As, cs, rfl, hls, hs⟩⟩ := hp
  have hb0 : Below w.heap.size w (w.alloc (.cells #[.slice Ab p.bins.length cb, .slice As p.sizes.length cs] 25)) := (Below.refl _ _).alloc (Nat.le_refl _) _
  go_enter Tryz.func143, Tryz.ntmps143
  go_wp2_with fail
  refine (shelfCheck _ _ vo p on (hP.up hb0 hb0.size) (hO.up hb0 hb0.size)).mono ?_
  rintro e W1 ⟨rfl, hb1⟩
  have hbw := hb0.trans (hb1.mono (by simp))
  have hsz := hb1.size
  obtain ⟨hc1, hf1⟩ := bcell hb1
  by_cases hz : checkShelf p on = 0
  · go_wp2_with fail
    refine (shThere _ _ p b g (hP.up hbw hbw.size)).mono ?_
    rintro e W2 ⟨rfl, hb2⟩
    have hbw2 := hbw.trans (hb2.mono hbw.size)
    cases ht : (isBin p b && isGood p g)
    · have hfin := Lib.hid (shelfError_there hz ht)
      go_wp2_with fail
      go_ret
      exact ⟨ret_int hfin.out.symm, hbw2⟩
    · have hfin := Lib.hid (shelfError_ok hz ht)
      go_wp2_with fail
      go_ret
      exact ⟨ret_int hfin.out.symm, hbw2⟩
  · have hfin := Lib.hid (shelfError_check (b := b) (g := g) hz)
    go_wp2_with fail
    go_ret
    exact ⟨ret_int hfin.out.symm, hbw⟩

end Wh
namespace Wh
open Go Go.RowKit Go.Shelf Go.Proofs
attribute [local go_sem] run_indexAt_letter

theorem sumE_ok {p : Plan} {on : List (List Int)} {g : Nat} (h : shelfError p on 0 g = 0) : sumE p on g = sumOf on g := by
  unfold sumE; rw [if_pos h, Int.toNat_natCast]
theorem sumE_no {p : Plan} {on : List (List Int)} {g : Int} (h : shelfError p on 0 g ≠ 0) : sumE p on g = 0 := by
  unfold sumE; rw [if_neg h]

set_option maxHeartbeats 1000000 in
theorem shelfSum (w : World) (v vo : Value) (p : Plan) (on : List (List Int)) (g : Int) (hp : PlanV w w.heap.size v p) (ho : SlSl cInt w w.heap.size vo on) :
    Calls Tryz.prog 82 #[v, vo, .int .i64 g] w fun e w' => e = .returned (.tuple #[.int .i64 (sumE p on g), .int .i64 (shelfError p on 0 g)]) ∧ Below w.heap.size w w' := by
  have hP := hp
  have hO := ho
  obtain ⟨_, _, rfl, ⟨Ab, cb, rfl, hlb, hb⟩, ⟨As, cs, rfl, hls, hs⟩⟩ := hp
  obtain ⟨A, c, vs, rfl, hl, hvl, hA, hrows⟩ := ho
  have hb0 : Below w.heap.size w (w.alloc (.cells #[.slice Ab p.bins.length cb, .slice As p.sizes.length cs] 25)) := (Below.refl _ _).alloc (Nat.le_refl _) _
  go_enter Tryz.func82, Tryz.ntmps82
  go_wp2_with fail
  refine (shelfAsked _ _ _ p on 0 g (hP.up hb0 hb0.size) (hO.up hb0 hb0.size)).mono ?_
  rintro e W1 ⟨rfl, hb1⟩
  have hbw := hb0.trans (hb1.mono (by simp))
  have hsz := hb1.size
  obtain ⟨hc1, hf1⟩ := bcell hb1
  by_cases hz : shelfError p on 0 g = 0
  · obtain ⟨hz1, hz2, hz3⟩ := shelfError_zero.1 hz
    have hbb := isGood_iff.1 hz3
    obtain ⟨g', rfl⟩ : ∃ n : Nat, g = n := ⟨g.toNat, by omega⟩
    have hgn : g' < p.sizes.length := by omega
    have hcnt := right_counts (checkShelf_zero.1 hz1).1
    have hlen := right_len hz1
    have hle := Nat.le_of_eq hlen
    clear hlen hbb hz2 hz3
    have hfin := Lib.hid (sumE_ok hz)
    have hz' := Lib.hid hz
    go_wp2_with fail
    clear hz
    go_loop [9, 21, 11] (fun n i _ => ∃ k : Nat, k ≤ on.length ∧ i = .int .i64 k ∧ n = .int .i64 (sumTo (fun b => cell on b g') k)) (fun _ i _ => on.length - (intOf i).toNat)
    case atStart => exact ⟨0, Nat.zero_le _, rfl, rfl⟩
    case round =>
      obtain ⟨k, hk, rfl, rfl⟩ := hrel
      by_cases hlt : k < on.length
      · obtain ⟨A', c', hok, hAb, hcu, hsu⟩ := (hO.up hbw hbw.size).row hlt
        have hgr : g' < (rowAt on k).length := by rw [right_row hz1 hlt]; exact hgn
        obtain ⟨hok2, hAb2, b2⟩ := hsu.at_.int hgr
        obtain ⟨u1, u2⟩ := sum_range hz1 hgn hk
        have hu2 : sumTo (fun b => cell on b g') k ≤ 9000 := by omega
        obtain ⟨q1, q2⟩ := right_cell hz1 hlt hgn
        unfold cell at q1 q2
        clear u2
        go_wp2_with fail
        go_round
        case rel => exact ⟨k + 1, by omega, by go_num, rfl⟩
        case measure => simp [intOf]; omega
      · obtain rfl : k = on.length := by omega
        go_wp2_with fail
        go_ret2
        exact ⟨ret2 (by rw [hfin.out]; rfl) (by rw [hz'.out]; rfl), hbw⟩
  · have hfin := Lib.hid (sumE_no hz)
    have hz' := Lib.hid hz
    go_wp2_with fail
    go_ret2
    exact ⟨ret2 (by rw [hfin.out]; rfl) rfl, hbw⟩
end Wh
namespace Wh
open Go Go.RowKit Go.Shelf Go.Proofs
attribute [local go_sem] run_indexAt_letter

theorem infoInts : Elem Tryz.prog 23 (.slice none 0 0) 1 24 := elem_of (by kernel_rfl)

set_option maxHeartbeats 1000000 in
theorem cloneInt (w : World) (v : Value) (l : List Int) (hv : Sl cInt w w.heap.size v l) (hn : l.length ≤ 1000000) :
    Calls Tryz.prog 113 #[v] w (Gives (fun u w' => Own cInt 1 3 w' w.heap.size u l) w) := by
  obtain ⟨A, c, rfl, hl, hA⟩ := hv
  have qT : ∀ (w : World) (a : Option Addr) (n c n' c' : Nat), (binOp .eql 23 (.slice a n c) (.slice none n' c')).run Tryz.prog w = .ok (.bool a.isNone) w := fun w a n c n' c' => Lib.run_eql_slice_nil w _ _ a n c n' c' Tryz.underlying23
  cases A with
  | none =>
    have h0 : l = [] := by
      cases l with
      | nil => rfl
      | cons x r => exact absurd (hA.ok (by simp [cInt])) (by rintro ⟨b, off, h⟩; cases h)
    subst h0
    go_enter Tryz.func113, Tryz.ntmps113
    go_wp2_with (at_builtin; refine Hid.out ?_)
    go_ret
    exact ⟨_, rfl, Own.nil, Below.refl _ _⟩
  | some ad =>
    go_enter Tryz.func113, Tryz.ntmps113
    go_wp2_with (at_builtin; refine Hid.out ?_)
    unfold Hid
    refine wpList_all _ rfl (.tmp 5) (.tmp 6) 23 3 rfl w.heap.size _ 1 8 Tryz.underlying23 infoInt rfl (by decide) (by decide) (.slice (some ⟨w.heap.size, 0, none⟩) 0 0) ([] : List Int) l rfl (Own.made0 w _ (Nat.le_refl _)) (some ad) c w.heap.size rfl (fun _ => rfl)
      (hA.up ((Below.refl _ _).alloc (Nat.le_refl _) _) (Nat.le_refl _)) (fun y => one_int y) (by simpa using hn) (by simp) ?_
    intro v1 w1 hown1 hg1 hat1 hbel1
    go_wp2_with fail
    go_ret
    exact ⟨_, rfl, by simpa using hown1, ((Below.refl _ _).alloc (Nat.le_refl _) _).trans hbel1⟩

theorem take_snoc {α : Type} {l : List α} {k : Nat} (h : k < l.length) : l.take (k + 1) = l.take k ++ [l[k]] := by
  rw [List.take_succ_eq_append_getElem h]
theorem one_val (v : Value) (h : v.oneCell' = true) : ∀ u ∈ (fun x : Value => [x]) v, u.oneCell' = true := by simpa using h

set_option maxHeartbeats 1000000 in
theorem shelfOwn (w : World) (v : Value) (on : List (List Int)) (hv : SlSl cInt w w.heap.size v on) (hn : on.length ≤ 1000) (hr : ∀ k, k < on.length → 0 < (rowAt on k).length ∧ (rowAt on k).length ≤ 1000) :
    Calls Tryz.prog 110 #[v] w (Gives (fun u w' => ∃ gs, OwnOn 23 3 w' w.heap.size u on gs) w) := by
  have hO := hv
  obtain ⟨A, c, vs, rfl, hl, hvl, hA, hrows⟩ := hv
  go_enter Tryz.func110, Tryz.ntmps110
  go_wp2_with fail
  go_loopw [3, 5, 8] (fun u _ i wr => ∃ (k : Nat) (gs : List Nat), k ≤ on.length ∧ i = .int .i64 k ∧ OwnOn 23 3 wr w.heap.size u (on.take k) gs ∧ Below w.heap.size w wr) (fun _ _ i _ => on.length - (intOf i).toNat)
  case atStart => exact ⟨0, [], Nat.zero_le _, rfl, OwnOn.nil, Below.refl _ _⟩
  case round =>
    obtain ⟨k, gs, hk, rfl, hown, hbw⟩ := hrel
    by_cases hlt : k < on.length
    · obtain ⟨A', c', hok, hAb, hcu, hsu⟩ := (hO.up hbw hbw.size).row hlt
      have hrk := hr k hlt
      go_wp2_with (first | (at_builtin; refine Hid.out ?_) | fail)
      refine (cloneInt _ _ _ hsu (by omega)).mono ?_
      rintro e W1 ⟨u, rfl, hu, hb1⟩
      obtain ⟨g, cu, rfl, hgb, hgl⟩ := hu.some_ hrk.1
      obtain ⟨vs', hV⟩ := hown
      have h1 := hV.1
      have h2 := hV.2.1
      have hlen : (on.take k).length ≤ 1000 := Nat.le_trans (List.length_take_le _ _) (by omega)
      have hbw1 := hbw.trans (hb1.mono hbw.size)
      go_wp2_with (first | (at_builtin; refine Hid.out ?_) | fail)
      unfold Hid
      refine wpList_push _ rfl (.tmp 12) (.tmp 15) 26 23 rfl w.heap.size _ 1 24 Tryz.underlying26 infoInts rfl (by decide) (by decide) u3 vs' (.slice (some ⟨g, 0, none⟩) (rowAt on k).length cu) rfl ((h1.below hb1).alloc _) ⟨W1.heap.size, 0, none⟩ 1 rfl rfl (cell_one_new _ _ _) (one_val _ rfl) (by omega) (by have := hbw1.size; simp; omega) ?_
      intro v2 w2 hown2 hg2 hat2 hbel2
      have hpush := OwnOnV.push (by decide) hV (hb1.alloc hb1.size _) hgb ((hu.from_ hbw.size).alloc _) hg2 hown2
      rw [rowAt_eq hlt, ← take_snoc hlt] at hpush
      have hbw2 := (hbw1.alloc hbw1.size (.cells #[.slice (some ⟨g, 0, none⟩) (rowAt on k).length cu] 23)).trans hbel2
      go_wp2_with fail
      go_roundw
      case rel => exact ⟨k + 1, _, by omega, by go_num, hpush, hbw2⟩
      case measure => simp [intOf]; omega

    · obtain rfl : k = on.length := by omega
      rw [List.take_length] at hown
      go_wp2_with fail
      go_ret
      exact ⟨_, rfl, ⟨gs, hown⟩, hbw⟩
end Wh
namespace Wh
open Go Go.RowKit Go.Shelf Go.Proofs
attribute [local go_sem] run_indexAt_letter
theorem erase_flat {α : Type} (enc : α → List Value) (l : List α) (k : Nat) : (l.eraseIdx k).flatMap enc = (l.take k).flatMap enc ++ (l.drop (k + 1)).flatMap enc := by
  rw [List.eraseIdx_eq_take_drop_succ, List.flatMap_append]

theorem infoHold : Elem Tryz.prog 46 (.agg #[.int .i64 0, .int .i64 0, .int .i64 0, .int .i64 0]) 4 32 := elem_of (by kernel_rfl)
theorem oneHold (x : Hold) : ∀ u ∈ cHold x, u.oneCell' = true := by simp [cHold, Value.oneCell']
set_option maxHeartbeats 1000000 in
theorem cloneHold (w : World) (v : Value) (l : List Hold) (hv : Sl cHold w w.heap.size v l) (hn : l.length ≤ 1000000) :
    Calls Tryz.prog 111 #[v] w (Gives (fun u w' => Own cHold 4 46 w' w.heap.size u l) w) := by
  obtain ⟨A, c, rfl, hl, hA⟩ := hv
  have qT : ∀ (w : World) (a : Option Addr) (n c n' c' : Nat), (binOp .eql 28 (.slice a n c) (.slice none n' c')).run Tryz.prog w = .ok (.bool a.isNone) w := fun w a n c n' c' => Lib.run_eql_slice_nil w _ _ a n c n' c' Tryz.underlying28
  cases A with
  | none =>
    have h0 : l = [] := by
      cases l with
      | nil => rfl
      | cons x r => exact absurd (hA.ok (by simp [cHold])) (by rintro ⟨b, off, h⟩; cases h)
    subst h0
    go_enter Tryz.func111, Tryz.ntmps111
    go_wp2_with (at_builtin; refine Hid.out ?_)
    go_ret
    exact ⟨_, rfl, Own.nil, Below.refl _ _⟩
  | some ad =>
    go_enter Tryz.func111, Tryz.ntmps111
    go_wp2_with (at_builtin; refine Hid.out ?_)
    unfold Hid
    refine wpList_all _ rfl (.tmp 5) (.tmp 6) 28 46 rfl w.heap.size _ 4 32 Tryz.underlying28 infoHold rfl (by decide) (by decide) (.slice (some ⟨w.heap.size, 0, none⟩) 0 0) ([] : List Hold) l rfl (Own.made0 w _ (Nat.le_refl _)) (some ad) c w.heap.size rfl (fun _ => rfl)
      (hA.up ((Below.refl _ _).alloc (Nat.le_refl _) _) (Nat.le_refl _)) (fun y => oneHold y) (by simpa using hn) (by simp) ?_
    intro v1 w1 hown1 hg1 hat1 hbel1
    go_wp2_with fail
    go_ret
    exact ⟨_, rfl, by simpa using hown1, ((Below.refl _ _).alloc (Nat.le_refl _) _).trans hbel1⟩
theorem zeroHold (w : World) : (zeroValue 46).run Tryz.prog w = .ok (.agg #[.int .i64 0, .int .i64 0, .int .i64 0, .int .i64 0]) w := by kernel_rfl
set_option maxHeartbeats 2000000 in
set_option maxRecDepth 100000 in
theorem delHold (w : World) (base : Nat) (v : Value) (l : List Hold) (k : Nat) (hown : Own cHold 4 46 w base v l) (hk : k < l.length) (hn : l.length ≤ 1000000) :
    Calls Tryz.prog 155 #[v, .int .i64 k, .int .i64 ((k : Int) + 1)] w fun e w' =>
      ∃ v', e = .returned v' ∧ Own cHold 4 46 w' base v' (l.eraseIdx k) ∧ w.grownBy w' v.ownBlock ∧ v'.ownBlock = v.ownBlock := by
  obtain ⟨g, cap, cur, rfl, hbg, hg, hlc, hcm, hcs, htake⟩ := hown.row (by omega)
  obtain ⟨i0, hi0, hz0, hsz0, hby0⟩ := infoHold
  have hk4 : ∀ x, (cHold x).length = 4 := fun _ => rfl
  obtain ⟨cs, hcsd⟩ : ∃ cs, cs = (l.drop (k + 1)).flatMap cHold := ⟨_, rfl⟩
  have hcl : cs.length = (l.length - (k + 1)) * 4 := by rw [hcsd, flat_length cHold 4 hk4, List.length_drop]
  have hc1 : ∀ u ∈ cs, u.oneCell' = true := fun u hu => by
    rw [hcsd] at hu
    obtain ⟨y, _, hy⟩ := List.mem_flatMap.1 hu
    exact oneHold y u hy
  obtain ⟨A, hA, hsrc⟩ : ∃ A : Addr, (if cap = k + 1 then some (⟨g, 0, none⟩ : Addr) else some ⟨g, (k + 1) * 4, none⟩) = some A ∧ Hid (∀ j u, cs[j]? = some u → w.drew.cell? (A.add j) = some u) := by
    by_cases h : cap = k + 1
    · refine ⟨⟨g, 0, none⟩, by rw [if_pos h], fun j u hj => ?_⟩
      have := (List.getElem?_eq_some_iff.1 hj).1
      omega
    · refine ⟨⟨g, (k + 1) * 4, none⟩, by rw [if_neg h], fun j u hj => ?_⟩
      rw [Addr.add_lit]
      refine hg.drew.cell ?_
      have hjl := (List.getElem?_eq_some_iff.1 hj).1
      have e1 : (cur.take (l.length * 4))[(k + 1) * 4 + j]? = some u := by
        rw [htake, ← List.getElem?_drop, flat_drop cHold 4 hk4, ← hcsd]
        exact hj
      rw [List.getElem?_take] at e1
      split at e1
      · exact e1
      · cases e1
  have hzl : ∀ n, (Builtin.zeroCells #[.int .i64 0, .int .i64 0, .int .i64 0, .int .i64 0] n).toList.length = n * 4 := fun n => by rw [Array.length_toList]; exact zeroCells_length _ n
  have hcur : l.length * 4 ≤ cur.length := by rw [hcs]; exact Nat.mul_le_mul_right _ hlc
  have hrun : ∀ ty, (Builtin.append_ #[28, 28] ty #[.slice (some ⟨g, 0, none⟩) k cap, .slice (some A) (l.length - (k + 1)) (cap - (k + 1))]).run Tryz.prog w.drew =
      .ok (.slice (some ⟨g, 0, none⟩) (k + (l.length - (k + 1))) cap) (w.drew.setRow g (spl cur (k * 4) cs).toArray) := fun ty => by
    have h := run_append_blk (P := Tryz.prog) w.drew 28 ty 46 i0 Tryz.underlying28 hi0 g k cap (.slice (some A) (l.length - (k + 1)) (cap - (k + 1))) (l.length - (k + 1)) cs cur hg.drew rfl
      (by rw [hsz0]; exact run_firstCells_some w.drew 4 _ A _ _ cs hcl hsrc.out) (by omega) (by rw [hsz0, hcl]; omega) hc1
    rw [hsz0] at h
    exact h
  obtain ⟨W1, hW1⟩ : ∃ W1, W1 = w.drew.setRow g (spl cur (k * 4) cs).toArray := ⟨_, rfl⟩
  rw [← hW1] at hrun
  have hg1 : Blk W1 g 46 (spl cur (k * 4) cs) := by rw [hW1]; exact hg.drew.row _
  have hl1 : (spl cur (k * 4) cs).length = cur.length := spl_length (by rw [hcl]; omega)
  have hclr : ∀ ty, (Builtin.clear_ #[28] ty #[.slice (some ⟨g, (k + (l.length - (k + 1))) * 4, none⟩) (l.length - (k + (l.length - (k + 1)))) (cap - (k + (l.length - (k + 1))))]).run Tryz.prog W1 =
      .ok (.tuple #[]) (W1.setRow g (spl (spl cur (k * 4) cs) ((k + (l.length - (k + 1))) * 4) (Builtin.zeroCells #[.int .i64 0, .int .i64 0, .int .i64 0, .int .i64 0] (l.length - (k + (l.length - (k + 1))))).toList).toArray) := fun ty =>
    run_clear_blk (P := Tryz.prog) W1 28 46 ty _ Tryz.underlying28 zeroHold (by simp [Value.cells, Value.oneCell']) g _ _ _ _ hg1 (by omega) (by rw [hl1]; simp [Value.cells]; omega)
  have hfin : ∃ cur2, Blk (W1.setRow g (spl (spl cur (k * 4) cs) ((k + (l.length - (k + 1))) * 4) (Builtin.zeroCells #[.int .i64 0, .int .i64 0, .int .i64 0, .int .i64 0] (l.length - (k + (l.length - (k + 1))))).toList).toArray) g 46 cur2 ∧ cur2.length = cap * 4 ∧ cur2.take ((l.eraseIdx k).length * 4) = (l.eraseIdx k).flatMap cHold := by
    refine ⟨_, hg1.row _, ?_, ?_⟩
    · rw [spl_length (by rw [hl1, hzl]; omega), hl1, hcs]
    · have e1 : (l.eraseIdx k).length * 4 = (k + (l.length - (k + 1))) * 4 := by rw [List.length_eraseIdx, if_pos hk]; omega
      rw [e1, spl_lo (by rw [hl1]; omega)]
      have e2 : (k + (l.length - (k + 1))) * 4 = k * 4 + cs.length := by rw [hcl, Nat.add_mul]
      rw [e2, spl_hi (by omega), erase_flat, hcsd]
      congr 1
      have e3 : cur.take (k * 4) = (cur.take (l.length * 4)).take (k * 4) := by rw [List.take_take, Nat.min_eq_left (by omega)]
      rw [e3, htake, flat_take cHold 4 hk4]
  have hgr : w.grownBy (W1.setRow g (spl (spl cur (k * 4) cs) ((k + (l.length - (k + 1))) * 4) (Builtin.zeroCells #[.int .i64 0, .int .i64 0, .int .i64 0, .int .i64 0] (l.length - (k + (l.length - (k + 1))))).toList).toArray) (some g) := by
    rw [hW1]
    have g1 := grown_row w.drew g (spl cur (k * 4) cs).toArray
    have g2 := grown_row (w.drew.setRow g (spl cur (k * 4) cs).toArray) g (spl (spl cur (k * 4) cs) ((k + (l.length - (k + 1))) * 4) (Builtin.zeroCells #[.int .i64 0, .int .i64 0, .int .i64 0, .int .i64 0] (l.length - (k + (l.length - (k + 1))))).toList).toArray
    exact ⟨g2.os.trans g1.os, g2.tape.trans g1.tape, g2.output.trans g1.output, Nat.le_trans g1.size g2.size, fun q hq hne => (g2.block q (Nat.lt_of_lt_of_le hq g1.size) hne).trans (g1.block q hq hne)⟩
  obtain ⟨W2, hW2⟩ : ∃ W2, W2 = W1.setRow g (spl (spl cur (k * 4) cs) ((k + (l.length - (k + 1))) * 4) (Builtin.zeroCells #[.int .i64 0, .int .i64 0, .int .i64 0, .int .i64 0] (l.length - (k + (l.length - (k + 1))))).toList).toArray := ⟨_, rfl⟩
  rw [← hW2] at hclr hfin hgr
  have hlen2 : (l.eraseIdx k).length = k + (l.length - (k + 1)) := by rw [List.length_eraseIdx, if_pos hk]; omega
  have hfin' := Lib.hid hfin
  have hgr' := Lib.hid hgr
  have hlen2' := Lib.hid hlen2
  have hw1 : IntKind.i64.wrap ((k : Int) + 1) = (k : Int) + 1 := by rw [IntKind.wrap_i64]; omega
  have hkc : k ≤ cap := by omega
  have hk1c : k + 1 ≤ cap := by omega
  have hcm' : cap ≤ 9223372036854775807 := by unfold maxLen at hcm; omega
  have hcmh := Lib.hid hcm
  have hlch := Lib.hid hlc
  have hkne : ¬ ((k : Int) = (k : Int) + 1) := by omega
  have hb1 : (0 : Int) ≤ (k : Int) + 1 := by omega
  have hb2 : (k : Int) + 1 ≤ (l.length : Int) := by omega
  have hb3 : (k : Int) ≤ (l.length : Int) := by omega
  have htn : ((k : Int) + 1).toNat = k + 1 := by omega
  have hl2 : k + (l.length - (k + 1)) < l.length := by omega
  have hl3 : ¬ (cap = k + (l.length - (k + 1))) := by omega
  clear hcsd hcm hi0 hg hcl hW1 hW2 hg1 hl1 hfin hgr hlen2 hcs htake hcur hc1
  go_enter Tryz.func155, Tryz.ntmps155
  go_wp2_with fail
  go_region_law (refine step_append_at _ rfl (.tmp 22) (.tmp 25) 28 28 rfl (.slice (some ⟨g, 0, none⟩) k cap) (.slice (some A) (l.length - (k + 1)) (cap - (k + 1))) (by simp [Act.eval, Act.put]) (by simp [Act.eval, Act.put]) (hrun _) ?_)
  go_wp2_with fail
  go_ret
  obtain ⟨cur2, c1, c2, c3⟩ := hfin'.out
  refine ⟨_, rfl, ?_, hgr'.out, rfl⟩
  rw [← hlen2'.out]
  exact Own.of_row hk4 hbg c1 (by rw [hlen2'.out]; have := hlch.out; omega) hcmh.out c2 c3

theorem infoMove : Elem Tryz.prog 48 (.agg #[.int .i64 0, .int .i64 0, .int .i64 0, .int .i64 0]) 4 32 := elem_of (by kernel_rfl)
theorem oneMove (x : Move) : ∀ u ∈ cMove x, u.oneCell' = true := by simp [cMove, Value.oneCell']
set_option maxHeartbeats 1000000 in
theorem cloneMove (w : World) (v : Value) (l : List Move) (hv : Sl cMove w w.heap.size v l) (hn : l.length ≤ 1000000) :
    Calls Tryz.prog 112 #[v] w (Gives (fun u w' => Own cMove 4 48 w' w.heap.size u l) w) := by
  obtain ⟨A, c, rfl, hl, hA⟩ := hv
  have qT : ∀ (w : World) (a : Option Addr) (n c n' c' : Nat), (binOp .eql 29 (.slice a n c) (.slice none n' c')).run Tryz.prog w = .ok (.bool a.isNone) w := fun w a n c n' c' => Lib.run_eql_slice_nil w _ _ a n c n' c' Tryz.underlying29
  cases A with
  | none =>
    have h0 : l = [] := by
      cases l with
      | nil => rfl
      | cons x r => exact absurd (hA.ok (by simp [cMove])) (by rintro ⟨b, off, h⟩; cases h)
    subst h0
    go_enter Tryz.func112, Tryz.ntmps112
    go_wp2_with (at_builtin; refine Hid.out ?_)
    go_ret
    exact ⟨_, rfl, Own.nil, Below.refl _ _⟩
  | some ad =>
    go_enter Tryz.func112, Tryz.ntmps112
    go_wp2_with (at_builtin; refine Hid.out ?_)
    unfold Hid
    refine wpList_all _ rfl (.tmp 5) (.tmp 6) 29 48 rfl w.heap.size _ 4 32 Tryz.underlying29 infoMove rfl (by decide) (by decide) (.slice (some ⟨w.heap.size, 0, none⟩) 0 0) ([] : List Move) l rfl (Own.made0 w _ (Nat.le_refl _)) (some ad) c w.heap.size rfl (fun _ => rfl)
      (hA.up ((Below.refl _ _).alloc (Nat.le_refl _) _) (Nat.le_refl _)) (fun y => oneMove y) (by simpa using hn) (by simp) ?_
    intro v1 w1 hown1 hg1 hat1 hbel1
    go_wp2_with fail
    go_ret
    exact ⟨_, rfl, by simpa using hown1, ((Below.refl _ _).alloc (Nat.le_refl _) _).trans hbel1⟩
theorem zeroMove (w : World) : (zeroValue 48).run Tryz.prog w = .ok (.agg #[.int .i64 0, .int .i64 0, .int .i64 0, .int .i64 0]) w := by kernel_rfl
set_option maxHeartbeats 2000000 in
set_option maxRecDepth 100000 in
theorem delMove (w : World) (base : Nat) (v : Value) (l : List Move) (k : Nat) (hown : Own cMove 4 48 w base v l) (hk : k < l.length) (hn : l.length ≤ 1000000) :
    Calls Tryz.prog 105 #[v, .int .i64 k, .int .i64 ((k : Int) + 1)] w fun e w' =>
      ∃ v', e = .returned v' ∧ Own cMove 4 48 w' base v' (l.eraseIdx k) ∧ w.grownBy w' v.ownBlock ∧ v'.ownBlock = v.ownBlock := by
  obtain ⟨g, cap, cur, rfl, hbg, hg, hlc, hcm, hcs, htake⟩ := hown.row (by omega)
  obtain ⟨i0, hi0, hz0, hsz0, hby0⟩ := infoMove
  have hk4 : ∀ x, (cMove x).length = 4 := fun _ => rfl
  obtain ⟨cs, hcsd⟩ : ∃ cs, cs = (l.drop (k + 1)).flatMap cMove := ⟨_, rfl⟩
  have hcl : cs.length = (l.length - (k + 1)) * 4 := by rw [hcsd, flat_length cMove 4 hk4, List.length_drop]
  have hc1 : ∀ u ∈ cs, u.oneCell' = true := fun u hu => by
    rw [hcsd] at hu
    obtain ⟨y, _, hy⟩ := List.mem_flatMap.1 hu
    exact oneMove y u hy
  obtain ⟨A, hA, hsrc⟩ : ∃ A : Addr, (if cap = k + 1 then some (⟨g, 0, none⟩ : Addr) else some ⟨g, (k + 1) * 4, none⟩) = some A ∧ Hid (∀ j u, cs[j]? = some u → w.drew.cell? (A.add j) = some u) := by
    by_cases h : cap = k + 1
    · refine ⟨⟨g, 0, none⟩, by rw [if_pos h], fun j u hj => ?_⟩
      have := (List.getElem?_eq_some_iff.1 hj).1
      omega
    · refine ⟨⟨g, (k + 1) * 4, none⟩, by rw [if_neg h], fun j u hj => ?_⟩
      rw [Addr.add_lit]
      refine hg.drew.cell ?_
      have hjl := (List.getElem?_eq_some_iff.1 hj).1
      have e1 : (cur.take (l.length * 4))[(k + 1) * 4 + j]? = some u := by
        rw [htake, ← List.getElem?_drop, flat_drop cMove 4 hk4, ← hcsd]
        exact hj
      rw [List.getElem?_take] at e1
      split at e1
      · exact e1
      · cases e1
  have hzl : ∀ n, (Builtin.zeroCells #[.int .i64 0, .int .i64 0, .int .i64 0, .int .i64 0] n).toList.length = n * 4 := fun n => by rw [Array.length_toList]; exact zeroCells_length _ n
  have hcur : l.length * 4 ≤ cur.length := by rw [hcs]; exact Nat.mul_le_mul_right _ hlc
  have hrun : ∀ ty, (Builtin.append_ #[29, 29] ty #[.slice (some ⟨g, 0, none⟩) k cap, .slice (some A) (l.length - (k + 1)) (cap - (k + 1))]).run Tryz.prog w.drew =
      .ok (.slice (some ⟨g, 0, none⟩) (k + (l.length - (k + 1))) cap) (w.drew.setRow g (spl cur (k * 4) cs).toArray) := fun ty => by
    have h := run_append_blk (P := Tryz.prog) w.drew 29 ty 48 i0 Tryz.underlying29 hi0 g k cap (.slice (some A) (l.length - (k + 1)) (cap - (k + 1))) (l.length - (k + 1)) cs cur hg.drew rfl
      (by rw [hsz0]; exact run_firstCells_some w.drew 4 _ A _ _ cs hcl hsrc.out) (by omega) (by rw [hsz0, hcl]; omega) hc1
    rw [hsz0] at h
    exact h
  obtain ⟨W1, hW1⟩ : ∃ W1, W1 = w.drew.setRow g (spl cur (k * 4) cs).toArray := ⟨_, rfl⟩
  rw [← hW1] at hrun
  have hg1 : Blk W1 g 48 (spl cur (k * 4) cs) := by rw [hW1]; exact hg.drew.row _
  have hl1 : (spl cur (k * 4) cs).length = cur.length := spl_length (by rw [hcl]; omega)
  have hclr : ∀ ty, (Builtin.clear_ #[29] ty #[.slice (some ⟨g, (k + (l.length - (k + 1))) * 4, none⟩) (l.length - (k + (l.length - (k + 1)))) (cap - (k + (l.length - (k + 1))))]).run Tryz.prog W1 =
      .ok (.tuple #[]) (W1.setRow g (spl (spl cur (k * 4) cs) ((k + (l.length - (k + 1))) * 4) (Builtin.zeroCells #[.int .i64 0, .int .i64 0, .int .i64 0, .int .i64 0] (l.length - (k + (l.length - (k + 1))))).toList).toArray) := fun ty =>
    run_clear_blk (P := Tryz.prog) W1 29 48 ty _ Tryz.underlying29 zeroMove (by simp [Value.cells, Value.oneCell']) g _ _ _ _ hg1 (by omega) (by rw [hl1]; simp [Value.cells]; omega)
  have hfin : ∃ cur2, Blk (W1.setRow g (spl (spl cur (k * 4) cs) ((k + (l.length - (k + 1))) * 4) (Builtin.zeroCells #[.int .i64 0, .int .i64 0, .int .i64 0, .int .i64 0] (l.length - (k + (l.length - (k + 1))))).toList).toArray) g 48 cur2 ∧ cur2.length = cap * 4 ∧ cur2.take ((l.eraseIdx k).length * 4) = (l.eraseIdx k).flatMap cMove := by
    refine ⟨_, hg1.row _, ?_, ?_⟩
    · rw [spl_length (by rw [hl1, hzl]; omega), hl1, hcs]
    · have e1 : (l.eraseIdx k).length * 4 = (k + (l.length - (k + 1))) * 4 := by rw [List.length_eraseIdx, if_pos hk]; omega
      rw [e1, spl_lo (by rw [hl1]; omega)]
      have e2 : (k + (l.length - (k + 1))) * 4 = k * 4 + cs.length := by rw [hcl, Nat.add_mul]
      rw [e2, spl_hi (by omega), erase_flat, hcsd]
      congr 1
      have e3 : cur.take (k * 4) = (cur.take (l.length * 4)).take (k * 4) := by rw [List.take_take, Nat.min_eq_left (by omega)]
      rw [e3, htake, flat_take cMove 4 hk4]
  have hgr : w.grownBy (W1.setRow g (spl (spl cur (k * 4) cs) ((k + (l.length - (k + 1))) * 4) (Builtin.zeroCells #[.int .i64 0, .int .i64 0, .int .i64 0, .int .i64 0] (l.length - (k + (l.length - (k + 1))))).toList).toArray) (some g) := by
    rw [hW1]
    have g1 := grown_row w.drew g (spl cur (k * 4) cs).toArray
    have g2 := grown_row (w.drew.setRow g (spl cur (k * 4) cs).toArray) g (spl (spl cur (k * 4) cs) ((k + (l.length - (k + 1))) * 4) (Builtin.zeroCells #[.int .i64 0, .int .i64 0, .int .i64 0, .int .i64 0] (l.length - (k + (l.length - (k + 1))))).toList).toArray
    exact ⟨g2.os.trans g1.os, g2.tape.trans g1.tape, g2.output.trans g1.output, Nat.le_trans g1.size g2.size, fun q hq hne => (g2.block q (Nat.lt_of_lt_of_le hq g1.size) hne).trans (g1.block q hq hne)⟩
  obtain ⟨W2, hW2⟩ : ∃ W2, W2 = W1.setRow g (spl (spl cur (k * 4) cs) ((k + (l.length - (k + 1))) * 4) (Builtin.zeroCells #[.int .i64 0, .int .i64 0, .int .i64 0, .int .i64 0] (l.length - (k + (l.length - (k + 1))))).toList).toArray := ⟨_, rfl⟩
  rw [← hW2] at hclr hfin hgr
  have hlen2 : (l.eraseIdx k).length = k + (l.length - (k + 1)) := by rw [List.length_eraseIdx, if_pos hk]; omega
  have hfin' := Lib.hid hfin
  have hgr' := Lib.hid hgr
  have hlen2' := Lib.hid hlen2
  have hw1 : IntKind.i64.wrap ((k : Int) + 1) = (k : Int) + 1 := by rw [IntKind.wrap_i64]; omega
  have hkc : k ≤ cap := by omega
  have hk1c : k + 1 ≤ cap := by omega
  have hcm' : cap ≤ 9223372036854775807 := by unfold maxLen at hcm; omega
  have hcmh := Lib.hid hcm
  have hlch := Lib.hid hlc
  have hkne : ¬ ((k : Int) = (k : Int) + 1) := by omega
  have hb1 : (0 : Int) ≤ (k : Int) + 1 := by omega
  have hb2 : (k : Int) + 1 ≤ (l.length : Int) := by omega
  have hb3 : (k : Int) ≤ (l.length : Int) := by omega
  have htn : ((k : Int) + 1).toNat = k + 1 := by omega
  have hl2 : k + (l.length - (k + 1)) < l.length := by omega
  have hl3 : ¬ (cap = k + (l.length - (k + 1))) := by omega
  clear hcsd hcm hi0 hg hcl hW1 hW2 hg1 hl1 hfin hgr hlen2 hcs htake hcur hc1
  go_enter Tryz.func105, Tryz.ntmps105
  go_wp2_with fail
  go_region_law (refine step_append_at _ rfl (.tmp 22) (.tmp 25) 29 29 rfl (.slice (some ⟨g, 0, none⟩) k cap) (.slice (some A) (l.length - (k + 1)) (cap - (k + 1))) (by simp [Act.eval, Act.put]) (by simp [Act.eval, Act.put]) (hrun _) ?_)
  go_wp2_with fail
  go_ret
  obtain ⟨cur2, c1, c2, c3⟩ := hfin'.out
  refine ⟨_, rfl, ?_, hgr'.out, rfl⟩
  rw [← hlen2'.out]
  exact Own.of_row hk4 hbg c1 (by rw [hlen2'.out]; have := hlch.out; omega) hcmh.out c2 c3

theorem infoLine : Elem Tryz.prog 44 (.agg #[.int .i64 0, .int .i64 0, .int .i64 0, .int .i64 0]) 4 32 := elem_of (by kernel_rfl)
theorem oneLine (x : Line) : ∀ u ∈ cLine x, u.oneCell' = true := by simp [cLine, Value.oneCell']
set_option maxHeartbeats 1000000 in
theorem cloneLine (w : World) (v : Value) (l : List Line) (hv : Sl cLine w w.heap.size v l) (hn : l.length ≤ 1000000) :
    Calls Tryz.prog 98 #[v] w (Gives (fun u w' => Own cLine 4 44 w' w.heap.size u l) w) := by
  obtain ⟨A, c, rfl, hl, hA⟩ := hv
  have qT : ∀ (w : World) (a : Option Addr) (n c n' c' : Nat), (binOp .eql 32 (.slice a n c) (.slice none n' c')).run Tryz.prog w = .ok (.bool a.isNone) w := fun w a n c n' c' => Lib.run_eql_slice_nil w _ _ a n c n' c' Tryz.underlying32
  cases A with
  | none =>
    have h0 : l = [] := by
      cases l with
      | nil => rfl
      | cons x r => exact absurd (hA.ok (by simp [cLine])) (by rintro ⟨b, off, h⟩; cases h)
    subst h0
    go_enter Tryz.func98, Tryz.ntmps98
    go_wp2_with (at_builtin; refine Hid.out ?_)
    go_ret
    exact ⟨_, rfl, Own.nil, Below.refl _ _⟩
  | some ad =>
    go_enter Tryz.func98, Tryz.ntmps98
    go_wp2_with (at_builtin; refine Hid.out ?_)
    unfold Hid
    refine wpList_all _ rfl (.tmp 5) (.tmp 6) 32 44 rfl w.heap.size _ 4 32 Tryz.underlying32 infoLine rfl (by decide) (by decide) (.slice (some ⟨w.heap.size, 0, none⟩) 0 0) ([] : List Line) l rfl (Own.made0 w _ (Nat.le_refl _)) (some ad) c w.heap.size rfl (fun _ => rfl)
      (hA.up ((Below.refl _ _).alloc (Nat.le_refl _) _) (Nat.le_refl _)) (fun y => oneLine y) (by simpa using hn) (by simp) ?_
    intro v1 w1 hown1 hg1 hat1 hbel1
    go_wp2_with fail
    go_ret
    exact ⟨_, rfl, by simpa using hown1, ((Below.refl _ _).alloc (Nat.le_refl _) _).trans hbel1⟩

end Wh
