/- Texts of the claim, joined: WalkJ, LibSl, StateK. -/
import Derived.Lib.SliceRun
import Derived.Deep.RegionLaw
import Derived.Test.YtbmklcloknpniaaQ06
import Derived.Test.YtbmklcloknpniaaQ03
import Derived.Test.YtbmklcloknpniaaQ04
import Derived.Test.YtbmklcloknpniaaQ05
namespace Wh
open Go Go.RowKit Go.Shelf Go.Proofs
attribute [local go_sem] run_indexAt_letter

theorem infoInts : Elem Try.prog 23 (.slice none 0 0) 1 24 := elem_of (by kernel_rfl)

set_option maxHeartbeats 1000000 in
theorem cloneInt (w : World) (v : Value) (l : List Int) (hv : Sl cInt w w.heap.size v l) (hn : l.length ≤ 1000000) :
    Calls Try.prog 27 #[v] w (Gives (fun u w' => Own cInt 1 3 w' w.heap.size u l) w) := by
  obtain ⟨A, c, rfl, hl, hA⟩ := hv
  have qT : ∀ (w : World) (a : Option Addr) (n c n' c' : Nat), (binOp .eql 23 (.slice a n c) (.slice none n' c')).run Try.prog w = .ok (.bool a.isNone) w := fun w a n c n' c' => Lib.run_eql_slice_nil w _ _ a n c n' c' Try.underlying23
  cases A with
  | none =>
    have h0 : l = [] := by
      cases l with
      | nil => rfl
      | cons x r => exact absurd (hA.ok (by simp [cInt])) (by rintro ⟨b, off, h⟩; cases h)
    subst h0
    go_enter Try.func27, Try.ntmps27
    go_wp2_with (at_builtin; refine Hid.out ?_)
    go_ret
    exact ⟨_, rfl, Own.nil, Below.refl _ _⟩
  | some ad =>
    go_enter Try.func27, Try.ntmps27
    go_wp2_with (at_builtin; refine Hid.out ?_)
    unfold Hid
    refine wpList_all _ rfl (.tmp 5) (.tmp 6) 23 3 rfl w.heap.size _ 1 8 Try.underlying23 infoInt rfl (by decide) (by decide) (.slice (some ⟨w.heap.size, 0, none⟩) 0 0) ([] : List Int) l rfl (Own.made0 w _ (Nat.le_refl _)) (some ad) c w.heap.size rfl (fun _ => rfl)
      (hA.up ((Below.refl _ _).alloc (Nat.le_refl _) _) (Nat.le_refl _)) (fun y => one_int y) (by simpa using hn) (by simp) ?_
    intro v1 w1 hown1 hg1 hat1 hbel1
    go_wp2_with fail
    go_ret
    exact ⟨_, rfl, by simpa using hown1, ((Below.refl _ _).alloc (Nat.le_refl _) _).trans hbel1⟩

theorem take_snoc {α : Type} {l : List α} {k : Nat} (h : k < l.length) : l.take (k + 1) = l.take k ++ [l[k]] := by
  rw [List.take_succ_eq_append_getElem h]
theorem one_val (v : Value) (h : v.oneCell' = true) : ∀ u ∈ (fun x : Value => [x]) v, u.oneCell' = true := by simpa using h

set_option maxHeartbeats 1000000 in
theorem shelfOwn (w : World) (v : Value) (on : List (List Int)) (hv : SlSl cInt w w.heap.size v on) (hn : on.length ≤ 1000) (hr : ∀ k, k < on.length → 0 < (rowAt on k).length ∧ (rowAt on k).length ≤ 1000) :
    Calls Try.prog 24 #[v] w (Gives (fun u w' => ∃ gs, OwnOn 23 3 w' w.heap.size u on gs) w) := by
  have hO := hv
  obtain ⟨A, c, vs, rfl, hl, hvl, hA, hrows⟩ := hv
  go_enter Try.func24, Try.ntmps24
  go_wp2_with fail
  go_loopw [3, 5, 8] (fun u _ i wr => ∃ (k : Nat) (gs : List Nat), k ≤ on.length ∧ i = .int .i64 k ∧ OwnOn 23 3 wr w.heap.size u (on.take k) gs ∧ Below w.heap.size w wr) (fun _ _ i _ => on.length - (intOf i).toNat)
  case atStart => exact ⟨0, [], Nat.zero_le _, rfl, OwnOn.nil, Below.refl _ _⟩
  case round =>
    obtain ⟨k, gs, hk, rfl, hown, hbw⟩ := hrel
    by_cases hlt : k < on.length
    · obtain ⟨A', c', hok, hAb, hcu, hsu⟩ := (hO.up hbw hbw.size).row hlt
      have hrk := hr k hlt
      go_wp2_with (first | (at_builtin; refine Hid.out ?_) | fail)
      refine (cloneInt _ _ _ hsu (by omega)).mono ?_
      rintro e W1 ⟨u, rfl, hu, hb1⟩
      obtain ⟨g, cu, rfl, hgb, hgl⟩ := hu.some_ hrk.1
      obtain ⟨vs', hV⟩ := hown
      have h1 := hV.1
      have h2 := hV.2.1
      have hlen : (on.take k).length ≤ 1000 := Nat.le_trans (List.length_take_le _ _) (by omega)
      have hbw1 := hbw.trans (hb1.mono hbw.size)
      go_wp2_with (first | (at_builtin; refine Hid.out ?_) | fail)
      unfold Hid
      refine wpList_push _ rfl (.tmp 12) (.tmp 15) 26 23 rfl w.heap.size _ 1 24 Try.underlying26 infoInts rfl (by decide) (by decide) u3 vs' (.slice (some ⟨g, 0, none⟩) (rowAt on k).length cu) rfl ((h1.below hb1).alloc _) ⟨W1.heap.size, 0, none⟩ 1 rfl rfl (cell_one_new _ _ _) (one_val _ rfl) (by omega) (by have := hbw1.size; simp; omega) ?_
      intro v2 w2 hown2 hg2 hat2 hbel2
      have hpush := OwnOnV.push (by decide) hV (hb1.alloc hb1.size _) hgb ((hu.from_ hbw.size).alloc _) hg2 hown2
      rw [rowAt_eq hlt, ← take_snoc hlt] at hpush
      have hbw2 := (hbw1.alloc hbw1.size (.cells #[.slice (some ⟨g, 0, none⟩) (rowAt on k).length cu] 23)).trans hbel2
      go_wp2_with fail
      go_roundw
      case rel => exact ⟨k + 1, _, by omega, by go_num, hpush, hbw2⟩
      case measure => simp [intOf]; omega

    · obtain rfl : k = on.length := by omega
      rw [List.take_length] at hown
      go_wp2_with fail
      go_ret
      exact ⟨_, rfl, ⟨gs, hown⟩, hbw⟩
end Wh
namespace Wh
open Go Go.RowKit Go.Shelf Go.Proofs
attribute [local go_sem] run_indexAt_letter
theorem erase_flat {α : Type} (enc : α → List Value) (l : List α) (k : Nat) : (l.eraseIdx k).flatMap enc = (l.take k).flatMap enc ++ (l.drop (k + 1)).flatMap enc := by
  rw [List.eraseIdx_eq_take_drop_succ, List.flatMap_append]

theorem infoHold : Elem Try.prog 65 (.agg #[.int .i64 0, .int .i64 0, .int .i64 0, .int .i64 0]) 4 32 := elem_of (by kernel_rfl)
theorem oneHold (x : Hold) : ∀ u ∈ cHold x, u.oneCell' = true := by simp [cHold, Value.oneCell']
set_option maxHeartbeats 1000000 in
theorem cloneHold (w : World) (v : Value) (l : List Hold) (hv : Sl cHold w w.heap.size v l) (hn : l.length ≤ 1000000) :
    Calls Try.prog 25 #[v] w (Gives (fun u w' => Own cHold 4 65 w' w.heap.size u l) w) := by
  obtain ⟨A, c, rfl, hl, hA⟩ := hv
  have qT : ∀ (w : World) (a : Option Addr) (n c n' c' : Nat), (binOp .eql 28 (.slice a n c) (.slice none n' c')).run Try.prog w = .ok (.bool a.isNone) w := fun w a n c n' c' => Lib.run_eql_slice_nil w _ _ a n c n' c' Try.underlying28
  cases A with
  | none =>
    have h0 : l = [] := by
      cases l with
      | nil => rfl
      | cons x r => exact absurd (hA.ok (by simp [cHold])) (by rintro ⟨b, off, h⟩; cases h)
    subst h0
    go_enter Try.func25, Try.ntmps25
    go_wp2_with (at_builtin; refine Hid.out ?_)
    go_ret
    exact ⟨_, rfl, Own.nil, Below.refl _ _⟩
  | some ad =>
    go_enter Try.func25, Try.ntmps25
    go_wp2_with (at_builtin; refine Hid.out ?_)
    unfold Hid
    refine wpList_all _ rfl (.tmp 5) (.tmp 6) 28 65 rfl w.heap.size _ 4 32 Try.underlying28 infoHold rfl (by decide) (by decide) (.slice (some ⟨w.heap.size, 0, none⟩) 0 0) ([] : List Hold) l rfl (Own.made0 w _ (Nat.le_refl _)) (some ad) c w.heap.size rfl (fun _ => rfl)
      (hA.up ((Below.refl _ _).alloc (Nat.le_refl _) _) (Nat.le_refl _)) (fun y => oneHold y) (by simpa using hn) (by simp) ?_
    intro v1 w1 hown1 hg1 hat1 hbel1
    go_wp2_with fail
    go_ret
    exact ⟨_, rfl, by simpa using hown1, ((Below.refl _ _).alloc (Nat.le_refl _) _).trans hbel1⟩

theorem infoMove : Elem Try.prog 42 (.agg #[.int .i64 0, .int .i64 0, .int .i64 0, .int .i64 0]) 4 32 := elem_of (by kernel_rfl)
theorem oneMove (x : Move) : ∀ u ∈ cMove x, u.oneCell' = true := by simp [cMove, Value.oneCell']
set_option maxHeartbeats 1000000 in
theorem cloneMove (w : World) (v : Value) (l : List Move) (hv : Sl cMove w w.heap.size v l) (hn : l.length ≤ 1000000) :
    Calls Try.prog 26 #[v] w (Gives (fun u w' => Own cMove 4 42 w' w.heap.size u l) w) := by
  obtain ⟨A, c, rfl, hl, hA⟩ := hv
  have qT : ∀ (w : World) (a : Option Addr) (n c n' c' : Nat), (binOp .eql 29 (.slice a n c) (.slice none n' c')).run Try.prog w = .ok (.bool a.isNone) w := fun w a n c n' c' => Lib.run_eql_slice_nil w _ _ a n c n' c' Try.underlying29
  cases A with
  | none =>
    have h0 : l = [] := by
      cases l with
      | nil => rfl
      | cons x r => exact absurd (hA.ok (by simp [cMove])) (by rintro ⟨b, off, h⟩; cases h)
    subst h0
    go_enter Try.func26, Try.ntmps26
    go_wp2_with (at_builtin; refine Hid.out ?_)
    go_ret
    exact ⟨_, rfl, Own.nil, Below.refl _ _⟩
  | some ad =>
    go_enter Try.func26, Try.ntmps26
    go_wp2_with (at_builtin; refine Hid.out ?_)
    unfold Hid
    refine wpList_all _ rfl (.tmp 5) (.tmp 6) 29 42 rfl w.heap.size _ 4 32 Try.underlying29 infoMove rfl (by decide) (by decide) (.slice (some ⟨w.heap.size, 0, none⟩) 0 0) ([] : List Move) l rfl (Own.made0 w _ (Nat.le_refl _)) (some ad) c w.heap.size rfl (fun _ => rfl)
      (hA.up ((Below.refl _ _).alloc (Nat.le_refl _) _) (Nat.le_refl _)) (fun y => oneMove y) (by simpa using hn) (by simp) ?_
    intro v1 w1 hown1 hg1 hat1 hbel1
    go_wp2_with fail
    go_ret
    exact ⟨_, rfl, by simpa using hown1, ((Below.refl _ _).alloc (Nat.le_refl _) _).trans hbel1⟩
theorem zeroMove (w : World) : (zeroValue 42).run Try.prog w = .ok (.agg #[.int .i64 0, .int .i64 0, .int .i64 0, .int .i64 0]) w := by kernel_rfl
set_option maxHeartbeats 2000000 in
set_option maxRecDepth 100000 in
theorem delMove (w : World) (base : Nat) (v : Value) (l : List Move) (k : Nat) (hown : Own cMove 4 42 w base v l) (hk : k < l.length) (hn : l.length ≤ 1000000) :
    Calls Try.prog 23 #[v, .int .i64 k, .int .i64 ((k : Int) + 1)] w fun e w' =>
      ∃ v', e = .returned v' ∧ Own cMove 4 42 w' base v' (l.eraseIdx k) ∧ w.grownBy w' v.ownBlock ∧ v'.ownBlock = v.ownBlock := by
  obtain ⟨g, cap, cur, rfl, hbg, hg, hlc, hcm, hcs, htake⟩ := hown.row (by omega)
  obtain ⟨i0, hi0, hz0, hsz0, hby0⟩ := infoMove
  have hk4 : ∀ x, (cMove x).length = 4 := fun _ => rfl
  obtain ⟨cs, hcsd⟩ : ∃ cs, cs = (l.drop (k + 1)).flatMap cMove := ⟨_, rfl⟩
  have hcl : cs.length = (l.length - (k + 1)) * 4 := by rw [hcsd, flat_length cMove 4 hk4, List.length_drop]
  have hc1 : ∀ u ∈ cs, u.oneCell' = true := fun u hu => by
    rw [hcsd] at hu
    obtain ⟨y, _, hy⟩ := List.mem_flatMap.1 hu
    exact oneMove y u hy
  obtain ⟨A, hA, hsrc⟩ : ∃ A : Addr, (if cap = k + 1 then some (⟨g, 0, none⟩ : Addr) else some ⟨g, (k + 1) * 4, none⟩) = some A ∧ Hid (∀ j u, cs[j]? = some u → w.drew.cell? (A.add j) = some u) := by
    by_cases h : cap = k + 1
    · refine ⟨⟨g, 0, none⟩, by rw [if_pos h], fun j u hj => ?_⟩
      have := (List.getElem?_eq_some_iff.1 hj).1
      omega
    · refine ⟨⟨g, (k + 1) * 4, none⟩, by rw [if_neg h], fun j u hj => ?_⟩
      rw [Addr.add_lit]
      refine hg.drew.cell ?_
      have hjl := (List.getElem?_eq_some_iff.1 hj).1
      have e1 : (cur.take (l.length * 4))[(k + 1) * 4 + j]? = some u := by
        rw [htake, ← List.getElem?_drop, flat_drop cMove 4 hk4, ← hcsd]
        exact hj
      rw [List.getElem?_take] at e1
      split at e1
      · exact e1
      · cases e1
  have hzl : ∀ n, (Builtin.zeroCells #[.int .i64 0, .int .i64 0, .int .i64 0, .int .i64 0] n).toList.length = n * 4 := fun n => by rw [Array.length_toList]; exact zeroCells_length _ n
  have hcur : l.length * 4 ≤ cur.length := by rw [hcs]; exact Nat.mul_le_mul_right _ hlc
  have hrun : ∀ ty, (Builtin.append_ #[29, 29] ty #[.slice (some ⟨g, 0, none⟩) k cap, .slice (some A) (l.length - (k + 1)) (cap - (k + 1))]).run Try.prog w.drew =
      .ok (.slice (some ⟨g, 0, none⟩) (k + (l.length - (k + 1))) cap) (w.drew.setRow g (spl cur (k * 4) cs).toArray) := fun ty => by
    have h := run_append_blk (P := Try.prog) w.drew 29 ty 42 i0 Try.underlying29 hi0 g k cap (.slice (some A) (l.length - (k + 1)) (cap - (k + 1))) (l.length - (k + 1)) cs cur hg.drew rfl
      (by rw [hsz0]; exact run_firstCells_some w.drew 4 _ A _ _ cs hcl hsrc.out) (by omega) (by rw [hsz0, hcl]; omega) hc1
    rw [hsz0] at h
    exact h
  obtain ⟨W1, hW1⟩ : ∃ W1, W1 = w.drew.setRow g (spl cur (k * 4) cs).toArray := ⟨_, rfl⟩
  rw [← hW1] at hrun
  have hg1 : Blk W1 g 42 (spl cur (k * 4) cs) := by rw [hW1]; exact hg.drew.row _
  have hl1 : (spl cur (k * 4) cs).length = cur.length := spl_length (by rw [hcl]; omega)
  have hclr : ∀ ty, (Builtin.clear_ #[29] ty #[.slice (some ⟨g, (k + (l.length - (k + 1))) * 4, none⟩) (l.length - (k + (l.length - (k + 1)))) (cap - (k + (l.length - (k + 1))))]).run Try.prog W1 =
      .ok (.tuple #[]) (W1.setRow g (spl (spl cur (k * 4) cs) ((k + (l.length - (k + 1))) * 4) (Builtin.zeroCells #[.int .i64 0, .int .i64 0, .int .i64 0, .int .i64 0] (l.length - (k + (l.length - (k + 1))))).toList).toArray) := fun ty =>
    run_clear_blk (P := Try.prog) W1 29 42 ty _ Try.underlying29 zeroMove (by simp [Value.cells, Value.oneCell']) g _ _ _ _ hg1 (by omega) (by rw [hl1]; simp [Value.cells]; omega)
  have hfin : ∃ cur2, Blk (W1.setRow g (spl (spl cur (k * 4) cs) ((k + (l.length - (k + 1))) * 4) (Builtin.zeroCells #[.int .i64 0, .int .i64 0, .int .i64 0, .int .i64 0] (l.length - (k + (l.length - (k + 1))))).toList).toArray) g 42 cur2 ∧ cur2.length = cap * 4 ∧ cur2.take ((l.eraseIdx k).length * 4) = (l.eraseIdx k).flatMap cMove := by
    refine ⟨_, hg1.row _, ?_, ?_⟩
    · rw [spl_length (by rw [hl1, hzl]; omega), hl1, hcs]
    · have e1 : (l.eraseIdx k).length * 4 = (k + (l.length - (k + 1))) * 4 := by rw [List.length_eraseIdx, if_pos hk]; omega
      rw [e1, spl_lo (by rw [hl1]; omega)]
      have e2 : (k + (l.length - (k + 1))) * 4 = k * 4 + cs.length := by rw [hcl, Nat.add_mul]
      rw [e2, spl_hi (by omega), erase_flat, hcsd]
      congr 1
      have e3 : cur.take (k * 4) = (cur.take (l.length * 4)).take (k * 4) := by rw [List.take_take, Nat.min_eq_left (by omega)]
      rw [e3, htake, flat_take cMove 4 hk4]
  have hgr : w.grownBy (W1.setRow g (spl (spl cur (k * 4) cs) ((k + (l.length - (k + 1))) * 4) (Builtin.zeroCells #[.int .i64 0, .int .i64 0, .int .i64 0, .int .i64 0] (l.length - (k + (l.length - (k + 1))))).toList).toArray) (some g) := by
    rw [hW1]
    have g1 := grown_row w.drew g (spl cur (k * 4) cs).toArray
    have g2 := grown_row (w.drew.setRow g (spl cur (k * 4) cs).toArray) g (spl (spl cur (k * 4) cs) ((k + (l.length - (k + 1))) * 4) (Builtin.zeroCells #[.int .i64 0, .int .i64 0, .int .i64 0, .int .i64 0] (l.length - (k + (l.length - (k + 1))))).toList).toArray
    exact ⟨g2.os.trans g1.os, g2.tape.trans g1.tape, g2.output.trans g1.output, Nat.le_trans g1.size g2.size, fun q hq hne => (g2.block q (Nat.lt_of_lt_of_le hq g1.size) hne).trans (g1.block q hq hne)⟩
  obtain ⟨W2, hW2⟩ : ∃ W2, W2 = W1.setRow g (spl (spl cur (k * 4) cs) ((k + (l.length - (k + 1))) * 4) (Builtin.zeroCells #[.int .i64 0, .int .i64 0, .int .i64 0, .int .i64 0] (l.length - (k + (l.length - (k + 1))))).toList).toArray := ⟨_, rfl⟩
  rw [← hW2] at hclr hfin hgr
  have hlen2 : (l.eraseIdx k).length = k + (l.length - (k + 1)) := by rw [List.length_eraseIdx, if_pos hk]; omega
  have hfin' := Lib.hid hfin
  have hgr' := Lib.hid hgr
  have hlen2' := Lib.hid hlen2
  have hw1 : IntKind.i64.wrap ((k : Int) + 1) = (k : Int) + 1 := by rw [IntKind.wrap_i64]; omega
  have hkc : k ≤ cap := by omega
  have hk1c : k + 1 ≤ cap := by omega
  have hcm' : cap ≤ 9223372036854775807 := by unfold maxLen at hcm; omega
  have hcmh := Lib.hid hcm
  have hlch := Lib.hid hlc
  have hkne : ¬ ((k : Int) = (k : Int) + 1) := by omega
  have hb1 : (0 : Int) ≤ (k : Int) + 1 := by omega
  have hb2 : (k : Int) + 1 ≤ (l.length : Int) := by omega
  have hb3 : (k : Int) ≤ (l.length : Int) := by omega
  have htn : ((k : Int) + 1).toNat = k + 1 := by omega
  have hl2 : k + (l.length - (k + 1)) < l.length := by omega
  have hl3 : ¬ (cap = k + (l.length - (k + 1))) := by omega
  clear hcsd hcm hi0 hg hcl hW1 hW2 hg1 hl1 hfin hgr hlen2 hcs htake hcur hc1
  go_enter Try.func23, Try.ntmps23
  go_wp2_with fail
  go_region_law (refine step_append_at _ rfl (.tmp 22) (.tmp 25) 29 29 rfl (.slice (some ⟨g, 0, none⟩) k cap) (.slice (some A) (l.length - (k + 1)) (cap - (k + 1))) (by simp [Act.eval, Act.put]) (by simp [Act.eval, Act.put]) (hrun _) ?_)
  go_wp2_with fail
  go_ret
  obtain ⟨cur2, c1, c2, c3⟩ := hfin'.out
  refine ⟨_, rfl, ?_, hgr'.out, rfl⟩
  rw [← hlen2'.out]
  exact Own.of_row hk4 hbg c1 (by rw [hlen2'.out]; have := hlch.out; omega) hcmh.out c2 c3

theorem infoLine : Elem Try.prog 70 (.agg #[.int .i64 0, .int .i64 0, .int .i64 0, .int .i64 0]) 4 32 := elem_of (by kernel_rfl)
theorem oneLine (x : Line) : ∀ u ∈ cLine x, u.oneCell' = true := by simp [cLine, Value.oneCell']
set_option maxHeartbeats 1000000 in
theorem cloneLine (w : World) (v : Value) (l : List Line) (hv : Sl cLine w w.heap.size v l) (hn : l.length ≤ 1000000) :
    Calls Try.prog 28 #[v] w (Gives (fun u w' => Own cLine 4 70 w' w.heap.size u l) w) := by
  obtain ⟨A, c, rfl, hl, hA⟩ := hv
  have qT : ∀ (w : World) (a : Option Addr) (n c n' c' : Nat), (binOp .eql 56 (.slice a n c) (.slice none n' c')).run Try.prog w = .ok (.bool a.isNone) w := fun w a n c n' c' => Lib.run_eql_slice_nil w _ _ a n c n' c' Try.underlying56
  cases A with
  | none =>
    have h0 : l = [] := by
      cases l with
      | nil => rfl
      | cons x r => exact absurd (hA.ok (by simp [cLine])) (by rintro ⟨b, off, h⟩; cases h)
    subst h0
    go_enter Try.func28, Try.ntmps28
    go_wp2_with (at_builtin; refine Hid.out ?_)
    go_ret
    exact ⟨_, rfl, Own.nil, Below.refl _ _⟩
  | some ad =>
    go_enter Try.func28, Try.ntmps28
    go_wp2_with (at_builtin; refine Hid.out ?_)
    unfold Hid
    refine wpList_all _ rfl (.tmp 5) (.tmp 6) 56 70 rfl w.heap.size _ 4 32 Try.underlying56 infoLine rfl (by decide) (by decide) (.slice (some ⟨w.heap.size, 0, none⟩) 0 0) ([] : List Line) l rfl (Own.made0 w _ (Nat.le_refl _)) (some ad) c w.heap.size rfl (fun _ => rfl)
      (hA.up ((Below.refl _ _).alloc (Nat.le_refl _) _) (Nat.le_refl _)) (fun y => oneLine y) (by simpa using hn) (by simp) ?_
    intro v1 w1 hown1 hg1 hat1 hbel1
    go_wp2_with fail
    go_ret
    exact ⟨_, rfl, by simpa using hown1, ((Below.refl _ _).alloc (Nat.le_refl _) _).trans hbel1⟩

end Wh
namespace Wh
open Go Go.RowKit Go.Shelf Go.Proofs
attribute [local go_sem] run_indexAt_letter evL_tmp evL_const evL_func

theorem infoOrder : Elem Try.prog 58 (.agg #[.int .i64 0, .slice none 0 0]) 2 32 := elem_of (by kernel_rfl)
theorem oneOrd (x : Int × Value) (h : x.2.oneCell' = true) : ∀ u ∈ cOrd x, u.oneCell' = true := by
  intro u hu
  simp only [cOrd, List.mem_cons, List.not_mem_nil, or_false] at hu
  rcases hu with rfl | rfl
  · rfl
  · exact h
theorem own_one {α : Type} {enc : α → List Value} {size : Nat} {e : TypeId} {w : World} {base : Nat} {v : Value} {l : List α} (h : Own enc size e w base v l) : v.oneCell' = true := by
  obtain ⟨A, c, rfl⟩ := h.isSlice
  rfl
theorem take_order {s : State} {k : Nat} (h : k < s.orders.length) : s.orders.take (k + 1) = s.orders.take k ++ [orderAt s.orders k] := by
  rw [List.take_succ_eq_append_getElem h, orderAt_eq h]
/-- The state, of its orders the first k. -/
def upTo (s : State) (k : Nat) : State := { s with orders := s.orders.take k }
theorem upTo_all (s : State) : upTo s s.orders.length = s := by
  unfold upTo
  rw [List.take_length]
theorem upTo_succ {s : State} {k : Nat} (h : k < s.orders.length) : upTo s (k + 1) = { upTo s k with orders := (upTo s k).orders ++ [orderAt s.orders k] } := by
  unfold upTo
  simp only
  rw [take_order h]

set_option maxHeartbeats 8000000 in
set_option maxRecDepth 100000 in
theorem sOwn (w : World) (v : Value) (p : Plan) (s : State) (hv : StateV w w.heap.size v s) (hs : Sane p s) :
    Calls Try.prog 10 #[v] w (Gives (fun u w' => ∃ V, u = V.val ∧ OwnSt w' w.heap.size V s) w) := by
  have h4 := hs.orders4
  have h8 := hs.moves8
  have h72 := ok_len72 hs.holds
  have hcnt := hs.counts
  have hsH := Lib.hid hs
  clear hs
  obtain ⟨A0, c0, A1, c1, A2, c2, A3, c3, A4, c4, A5, c5, A6, c6, rfl, hV, hN, hO, hH, hM, hI, hU, hX, hl0, hl1, hl2, hl3, hl4, hl5, hl6⟩ := openOne hv
  go_enter Try.func10, Try.ntmps10
  go_wp2_with fail
  obtain ⟨W0, hW0, hb0, hsz0, hsz1, hsE, hK⟩ := boxesOne w s A0 c0 A1 c1 A2 c2 A3 c3 A4 c4 A5 c5 A6 c6
  rw [hW0]
  clear hW0
  generalize hW1 : W0.alloc _ = W1
  have hb1 : Below W0.heap.size W0 W1 := by rw [← hW1]; exact (Below.refl _ _).alloc (Nat.le_refl _) _
  have hs1 : W0.heap.size < W1.heap.size := by rw [← hW1]; simp
  have hBlk0 := Lib.hid (show Blk W1 W0.heap.size 31 [.slice none 0 0, .slice none 0 0, .slice none 0 0, .slice none 0 0, .slice none 0 0, .slice none 0 0, .slice none 0 0] by rw [← hW1]; exact Blk.new _ _ _)
  clear hW1
  have hB1 := hb0.trans (hb1.mono hb0.size)
  have hrows : ∀ k, k < s.on.length → 0 < (rowAt s.on k).length ∧ (rowAt s.on k).length ≤ 1000 := fun k hk => by
    have := hsH.out.rowLen (b := k) (by rw [← hsH.out.onLen]; exact hk)
    omega
  have hon : s.on.length ≤ 1000 := by rw [hsH.out.onLen]; omega
  have hrows' := Lib.hid hrows
  have hil' := Lib.hid hsH.out.inn.1
  have hul' := Lib.hid hsH.out.out.1
  have hxl' := Lib.hid hsH.out.fixed.1
  clear hrows
  refine wp_region_ops 20 [
    fun g _ => g 6 = .pointer (some ⟨w.heap.size, 0, none⟩),
    fun g _ => g 7 = .slice A0 s.on.length c0,
    fun g w' => (fun v w' => ∃ gs, OwnOn 23 3 w' W1.heap.size (v) s.on gs) (g 8) w',
    fun g _ => g 9 = .pointer (some ⟨w.heap.size, 2, none⟩),
    fun g _ => g 10 = .slice A2 s.holds.length c2,
    fun g w' => Own cHold 4 65 w' W1.heap.size (g 11) s.holds ∧ ∃ gs, OwnOn 23 3 w' W1.heap.size (g 8) s.on gs,
    fun g _ => g 12 = .pointer (some ⟨w.heap.size, 3, none⟩),
    fun g _ => g 13 = .slice A3 s.moves.length c3,
    fun g w' => Own cMove 4 42 w' W1.heap.size (g 14) s.moves ∧ ∃ gs, OwnOn 23 3 w' W1.heap.size (g 8) s.on gs,
    fun g _ => g 15 = .pointer (some ⟨w.heap.size, 4, none⟩),
    fun g _ => g 16 = .slice A4 s.inn.length c4,
    fun g w' => NumsI w' W1.heap.size s.on s.inn (g 8) (g 17),
    fun g _ => g 18 = .pointer (some ⟨w.heap.size, 5, none⟩),
    fun g _ => g 19 = .slice A5 s.out.length c5,
    fun g w' => NumsU w' W1.heap.size s.on s.inn s.out (g 8) (g 17) (g 20),
    fun g _ => g 21 = .pointer (some ⟨w.heap.size, 6, none⟩),
    fun g _ => g 22 = .slice A6 s.fixed.length c6,
    fun g w' => NumsX w' W1.heap.size s.on s.inn s.out s.fixed (g 8) (g 17) (g 20) (g 23),
    fun g _ => g 24 = .agg #[g 8, .slice none 0 0, g 11, g 14, g 17, g 20, g 23],
    fun g w' => (fun v w' => ∃ b, v = .pointer (some ⟨b, 0, none⟩) ∧ W1.heap.size ≤ b ∧ BoxAt w' b ⟨nilV, nilV, nilV, nilV, nilV, nilV, nilV, [], []⟩) (g 3) w'] (by kernel_rfl) (by kernel_rfl) rfl (by kernel_rfl) ?_ (fun f w2 hb2 hR => ?_)
  simp only [List.take_succ_cons, List.take_zero]
  refine OpsOK.cons (OpOK.val rfl rfl (fun g w' hb ho hd => ?_)) ?_
  · have e1 := ho 1 rfl
    go_simp
  refine OpsOK.cons (OpOK.val rfl rfl (fun g w' hb ho hd => ?_)) ?_
  · have e1 : g 6 = .pointer (some ⟨w.heap.size, 0, none⟩) := hd ⟨0, .data⟩ (by simp) rfl (by decide)
    obtain ⟨_, x0, x1, x2, x3, x4, x5, x6, _⟩ := hK.out w' (hb1.trans (hb.mono hb1.size))
    go_simp
  refine OpsOK.cons (OpOK.one (d := 8) (p := (fun v w' => ∃ gs, OwnOn 23 3 w' W1.heap.size (v) s.on gs)) rfl rfl (fun v w1 w2 h hb => h.elim fun gs h => ⟨gs, h.below hb⟩) (fun g w' hb ho hd => ?_)) ?_
  · have e1 : g 7 = .slice A0 s.on.length c0 := hd ⟨1, .data⟩ (by simp) rfl (by decide)
    unfold OpRel
    go_simp
    refine (shelfOwn w' _ s.on (hN.out w' (hB1.trans (hb.mono hB1.size))) hon hrows'.out).mono ?_
    rintro e w2 ⟨u, rfl, ⟨gs, h⟩, hb2⟩
    exact ⟨u, rfl, ⟨gs, h.from_ hb.size⟩, hb2⟩
  refine OpsOK.cons (OpOK.val rfl rfl (fun g w' hb ho hd => ?_)) ?_
  · have e1 := ho 1 rfl
    go_simp
  refine OpsOK.cons (OpOK.val rfl rfl (fun g w' hb ho hd => ?_)) ?_
  · have e1 : g 9 = .pointer (some ⟨w.heap.size, 2, none⟩) := hd ⟨3, .data⟩ (by simp) rfl (by decide)
    obtain ⟨_, x0, x1, x2, x3, x4, x5, x6, _⟩ := hK.out w' (hb1.trans (hb.mono hb1.size))
    go_simp
  refine OpsOK.cons (⟨fun g w1 w2 h hb => ⟨h.1.below hb, h.2.elim fun gs h => ⟨gs, h.below hb⟩⟩, fun g g' w1 he h => ?_, fun g w' hb ho hd => ?_⟩) ?_
  · have e0 := he 2 _ 8 (.back (i := 5) (e := ⟨2, .chain⟩) rfl (by simp) rfl rfl (.self 2)) rfl rfl
    have e2 := he 5 _ 11 (.self 5) rfl rfl
    simp only [e0, e2] at h
    exact h
  · have e1 : g 10 = .slice A2 s.holds.length c2 := hd ⟨4, .data⟩ (by simp) rfl (by decide)
    have e2 : ∃ gs, OwnOn 23 3 w' W1.heap.size (g 8) s.on gs := hd ⟨2, .chain⟩ (by simp) rfl (by decide)
    have e2' := Lib.hid e2
    clear e2
    unfold OpRel
    go_simp
    refine (cloneHold w' _ s.holds (hH.out w' (hB1.trans (hb.mono hB1.size))) (by omega)).mono ?_
    rintro e w2 ⟨u, rfl, h, hb2⟩
    have hfin : Own cHold 4 65 w2 W1.heap.size (u) s.holds ∧ ∃ gs, OwnOn 23 3 w2 W1.heap.size (g 8) s.on gs := ⟨h.from_ hb.size, e2'.out.elim fun gs h => ⟨gs, h.below hb2⟩⟩
    exact ⟨u, rfl, by simpa [updO, upd] using hfin, hb2⟩
  refine OpsOK.cons (OpOK.val rfl rfl (fun g w' hb ho hd => ?_)) ?_
  · have e1 := ho 1 rfl
    go_simp
  refine OpsOK.cons (OpOK.val rfl rfl (fun g w' hb ho hd => ?_)) ?_
  · have e1 : g 12 = .pointer (some ⟨w.heap.size, 3, none⟩) := hd ⟨6, .data⟩ (by simp) rfl (by decide)
    obtain ⟨_, x0, x1, x2, x3, x4, x5, x6, _⟩ := hK.out w' (hb1.trans (hb.mono hb1.size))
    go_simp
  refine OpsOK.cons (⟨fun g w1 w2 h hb => ⟨h.1.below hb, h.2.elim fun gs h => ⟨gs, h.below hb⟩⟩, fun g g' w1 he h => ?_, fun g w' hb ho hd => ?_⟩) ?_
  · have e0 := he 2 _ 8 (.back (i := 8) (e := ⟨5, .chain⟩) rfl (by simp) rfl rfl (.back (i := 5) (e := ⟨2, .chain⟩) rfl (by simp) rfl rfl (.self 2))) rfl rfl
    have e3 := he 8 _ 14 (.self 8) rfl rfl
    simp only [e0, e3] at h
    exact h
  · have e1 : g 13 = .slice A3 s.moves.length c3 := hd ⟨7, .data⟩ (by simp) rfl (by decide)
    have e2 : Own cHold 4 65 w' W1.heap.size (g 11) s.holds ∧ ∃ gs, OwnOn 23 3 w' W1.heap.size (g 8) s.on gs := hd ⟨5, .chain⟩ (by simp) rfl (by decide)
    have e2' := Lib.hid e2
    clear e2
    unfold OpRel
    go_simp
    refine (cloneMove w' _ s.moves (hM.out w' (hB1.trans (hb.mono hB1.size))) (by omega)).mono ?_
    rintro e w2 ⟨u, rfl, h, hb2⟩
    have hfin : Own cMove 4 42 w2 W1.heap.size (u) s.moves ∧ ∃ gs, OwnOn 23 3 w2 W1.heap.size (g 8) s.on gs := ⟨h.from_ hb.size, e2'.out.2.elim fun gs h => ⟨gs, h.below hb2⟩⟩
    exact ⟨u, rfl, by simpa [updO, upd] using hfin, hb2⟩
  refine OpsOK.cons (OpOK.val rfl rfl (fun g w' hb ho hd => ?_)) ?_
  · have e1 := ho 1 rfl
    go_simp
  refine OpsOK.cons (OpOK.val rfl rfl (fun g w' hb ho hd => ?_)) ?_
  · have e1 : g 15 = .pointer (some ⟨w.heap.size, 4, none⟩) := hd ⟨9, .data⟩ (by simp) rfl (by decide)
    obtain ⟨_, x0, x1, x2, x3, x4, x5, x6, _⟩ := hK.out w' (hb1.trans (hb.mono hb1.size))
    go_simp
  refine OpsOK.cons (⟨fun g w1 w2 h hb => h.below hb, fun g g' w1 he h => ?_, fun g w' hb ho hd => ?_⟩) ?_
  · have e0 := he 2 _ 8 (.back (i := 11) (e := ⟨8, .chain⟩) rfl (by simp) rfl rfl (.back (i := 8) (e := ⟨5, .chain⟩) rfl (by simp) rfl rfl (.back (i := 5) (e := ⟨2, .chain⟩) rfl (by simp) rfl rfl (.self 2)))) rfl rfl
    have e4 := he 11 _ 17 (.self 11) rfl rfl
    simp only [e0, e4] at h
    exact h
  · have e1 : g 16 = .slice A4 s.inn.length c4 := hd ⟨10, .data⟩ (by simp) rfl (by decide)
    have e2 : Own cMove 4 42 w' W1.heap.size (g 14) s.moves ∧ ∃ gs, OwnOn 23 3 w' W1.heap.size (g 8) s.on gs := hd ⟨8, .chain⟩ (by simp) rfl (by decide)
    have e2' := Lib.hid e2
    clear e2
    unfold OpRel
    go_simp
    refine (cloneInt w' _ s.inn (hI.out w' (hB1.trans (hb.mono hB1.size))) (by rw [hil'.out]; omega)).mono ?_
    rintro e w2 ⟨u, rfl, h, hb2⟩
    have hfin : NumsI w2 W1.heap.size s.on s.inn (g 8) u := e2'.out.2.elim fun gs h8 => NumsI.of h8 hb.size hb2 h
    exact ⟨u, rfl, by simpa [updO, upd] using hfin, hb2⟩
  refine OpsOK.cons (OpOK.val rfl rfl (fun g w' hb ho hd => ?_)) ?_
  · have e1 := ho 1 rfl
    go_simp
  refine OpsOK.cons (OpOK.val rfl rfl (fun g w' hb ho hd => ?_)) ?_
  · have e1 : g 18 = .pointer (some ⟨w.heap.size, 5, none⟩) := hd ⟨12, .data⟩ (by simp) rfl (by decide)
    obtain ⟨_, x0, x1, x2, x3, x4, x5, x6, _⟩ := hK.out w' (hb1.trans (hb.mono hb1.size))
    go_simp
  refine OpsOK.cons (⟨fun g w1 w2 h hb => h.below hb, fun g g' w1 he h => ?_, fun g w' hb ho hd => ?_⟩) ?_
  · have e0 := he 2 _ 8 (.back (i := 14) (e := ⟨11, .chain⟩) rfl (by simp) rfl rfl (.back (i := 11) (e := ⟨8, .chain⟩) rfl (by simp) rfl rfl (.back (i := 8) (e := ⟨5, .chain⟩) rfl (by simp) rfl rfl (.back (i := 5) (e := ⟨2, .chain⟩) rfl (by simp) rfl rfl (.self 2))))) rfl rfl
    have e4 := he 11 _ 17 (.back (i := 14) (e := ⟨11, .chain⟩) rfl (by simp) rfl rfl (.self 11)) rfl rfl
    have e5 := he 14 _ 20 (.self 14) rfl rfl
    simp only [e0, e4, e5] at h
    exact h
  · have e1 : g 19 = .slice A5 s.out.length c5 := hd ⟨13, .data⟩ (by simp) rfl (by decide)
    have e2 : NumsI w' W1.heap.size s.on s.inn (g 8) (g 17) := hd ⟨11, .chain⟩ (by simp) rfl (by decide)
    have e2' := Lib.hid e2
    clear e2
    unfold OpRel
    go_simp
    refine (cloneInt w' _ s.out (hU.out w' (hB1.trans (hb.mono hB1.size))) (by rw [hul'.out]; omega)).mono ?_
    rintro e w2 ⟨u, rfl, h, hb2⟩
    have hfin : NumsU w2 W1.heap.size s.on s.inn s.out (g 8) (g 17) u := NumsU.of e2'.out hb.size hb2 h
    exact ⟨u, rfl, by simpa [updO, upd] using hfin, hb2⟩
  refine OpsOK.cons (OpOK.val rfl rfl (fun g w' hb ho hd => ?_)) ?_
  · have e1 := ho 1 rfl
    go_simp
  refine OpsOK.cons (OpOK.val rfl rfl (fun g w' hb ho hd => ?_)) ?_
  · have e1 : g 21 = .pointer (some ⟨w.heap.size, 6, none⟩) := hd ⟨15, .data⟩ (by simp) rfl (by decide)
    obtain ⟨_, x0, x1, x2, x3, x4, x5, x6, _⟩ := hK.out w' (hb1.trans (hb.mono hb1.size))
    go_simp
  refine OpsOK.cons (⟨fun g w1 w2 h hb => h.below hb, fun g g' w1 he h => ?_, fun g w' hb ho hd => ?_⟩) ?_
  · have e0 := he 2 _ 8 (.back (i := 17) (e := ⟨14, .chain⟩) rfl (by simp) rfl rfl (.back (i := 14) (e := ⟨11, .chain⟩) rfl (by simp) rfl rfl (.back (i := 11) (e := ⟨8, .chain⟩) rfl (by simp) rfl rfl (.back (i := 8) (e := ⟨5, .chain⟩) rfl (by simp) rfl rfl (.back (i := 5) (e := ⟨2, .chain⟩) rfl (by simp) rfl rfl (.self 2)))))) rfl rfl
    have e4 := he 11 _ 17 (.back (i := 17) (e := ⟨14, .chain⟩) rfl (by simp) rfl rfl (.back (i := 14) (e := ⟨11, .chain⟩) rfl (by simp) rfl rfl (.self 11))) rfl rfl
    have e5 := he 14 _ 20 (.back (i := 17) (e := ⟨14, .chain⟩) rfl (by simp) rfl rfl (.self 14)) rfl rfl
    have e6 := he 17 _ 23 (.self 17) rfl rfl
    simp only [e0, e4, e5, e6] at h
    exact h
  · have e1 : g 22 = .slice A6 s.fixed.length c6 := hd ⟨16, .data⟩ (by simp) rfl (by decide)
    have e2 : NumsU w' W1.heap.size s.on s.inn s.out (g 8) (g 17) (g 20) := hd ⟨14, .chain⟩ (by simp) rfl (by decide)
    have e2' := Lib.hid e2
    clear e2
    unfold OpRel
    go_simp
    refine (cloneInt w' _ s.fixed (hX.out w' (hB1.trans (hb.mono hB1.size))) (by rw [hxl'.out]; omega)).mono ?_
    rintro e w2 ⟨u, rfl, h, hb2⟩
    have hfin : NumsX w2 W1.heap.size s.on s.inn s.out s.fixed (g 8) (g 17) (g 20) u := NumsX.of e2'.out hb.size hb2 h
    exact ⟨u, rfl, by simpa [updO, upd] using hfin, hb2⟩
  refine OpsOK.cons (⟨fun g w1 w2 h hb => h, fun g g' w1 he h => ?_, fun g w' hb ho hd => ?_⟩) ?_
  · have es := he 18 _ 24 (.self 18) rfl rfl
    have e0 := he 2 _ 8 (.back (i := 18) (e := ⟨2, .data⟩) rfl (by simp) rfl rfl (.self 2)) rfl rfl
    have e2 := he 5 _ 11 (.back (i := 18) (e := ⟨5, .data⟩) rfl (by simp) rfl rfl (.self 5)) rfl rfl
    have e3 := he 8 _ 14 (.back (i := 18) (e := ⟨8, .data⟩) rfl (by simp) rfl rfl (.self 8)) rfl rfl
    have e4 := he 11 _ 17 (.back (i := 18) (e := ⟨11, .data⟩) rfl (by simp) rfl rfl (.self 11)) rfl rfl
    have e5 := he 14 _ 20 (.back (i := 18) (e := ⟨14, .data⟩) rfl (by simp) rfl rfl (.self 14)) rfl rfl
    have e6 := he 17 _ 23 (.back (i := 18) (e := ⟨17, .data⟩) rfl (by simp) rfl rfl (.self 17)) rfl rfl
    change g' 24 = .agg #[g' 8, .slice none 0 0, g' 11, g' 14, g' 17, g' 20, g' 23]
    rw [← es, ← e0, ← e2, ← e3, ← e4, ← e5, ← e6]
    exact h
  · obtain ⟨B0, d0, s0⟩ : ∃ A c, g 8 = .slice A s.on.length c := (hd ⟨2, .data⟩ (by simp) rfl (by decide) : ∃ gs, OwnOn 23 3 w' W1.heap.size (g 8) s.on gs).elim fun gs h => h.isSlice
    obtain ⟨B2, d2, s2⟩ := (hd ⟨5, .data⟩ (by simp) rfl (by decide) : Own cHold 4 65 w' W1.heap.size (g 11) s.holds ∧ ∃ gs, OwnOn 23 3 w' W1.heap.size (g 8) s.on gs).1.isSlice
    obtain ⟨B3, d3, s3⟩ := (hd ⟨8, .data⟩ (by simp) rfl (by decide) : Own cMove 4 42 w' W1.heap.size (g 14) s.moves ∧ ∃ gs, OwnOn 23 3 w' W1.heap.size (g 8) s.on gs).1.isSlice
    obtain ⟨B4, d4, s4⟩ := (hd ⟨11, .data⟩ (by simp) rfl (by decide) : NumsI w' W1.heap.size s.on s.inn (g 8) (g 17)).isSlice
    obtain ⟨B5, d5, s5⟩ := (hd ⟨14, .data⟩ (by simp) rfl (by decide) : NumsU w' W1.heap.size s.on s.inn s.out (g 8) (g 17) (g 20)).isSlice
    obtain ⟨B6, d6, s6⟩ := (hd ⟨17, .data⟩ (by simp) rfl (by decide) : NumsX w' W1.heap.size s.on s.inn s.out s.fixed (g 8) (g 17) (g 20) (g 23)).isSlice
    unfold OpRel
    go_simp
    exact ⟨by simp [updO, upd, s0, s2, s3, s4, s5, s6], Below.refl _ _⟩
  refine OpsOK.cons (OpOK.one (d := 3) (p := (fun v w' => ∃ b, v = .pointer (some ⟨b, 0, none⟩) ∧ W1.heap.size ≤ b ∧ BoxAt w' b ⟨nilV, nilV, nilV, nilV, nilV, nilV, nilV, [], []⟩)) rfl rfl (fun v w1 w2 h hb => h.elim fun b h => ⟨b, h.1, h.2.1, h.2.2.below hb h.2.2.lt⟩) (fun g w' hb ho hd => ?_)) ?_
  · unfold OpRel
    go_simp
    exact ⟨⟨hb.size, Blk.new _ _ _⟩, (Below.refl _ _).alloc (Nat.le_refl _) _⟩
  exact OpsOK.nil
  obtain ⟨r0, r1, r2, r3, r4, r5, r6, r7, r8, r9, r10, r11, r12, r13, r14, r15, r16, r17, r18, ⟨b, r19, hbb, hbox⟩, _⟩ := hR
  simp only [fillA, fillT, List.take_succ_cons, List.take_zero, List.drop_succ_cons, List.drop_zero, List.filterMap_cons, List.filterMap_nil, List.foldl_cons, List.foldl_nil, List.setIfInBounds_toArray, List.set_cons_zero, List.set_cons_succ, r0, r1, r3, r4, r6, r7, r9, r10, r12, r13, r15, r16, r18, r19]
  obtain ⟨B0, d0, s0⟩ := r17.isSlice0
  obtain ⟨B2, d2, s2⟩ := r5.1.isSlice
  obtain ⟨B3, d3, s3⟩ := r8.1.isSlice
  obtain ⟨B4, d4, s4⟩ := r11.isSlice
  obtain ⟨B5, d5, s5⟩ := r14.isSlice
  obtain ⟨B6, d6, s6⟩ := r17.isSlice
  obtain ⟨vs, hown⟩ := r17.made r5.1 r8.1
  simp only [s0, s2, s3, s4, s5, s6] at hown ⊢
  have hO2 := Lib.hid hown
  clear hown s0 s2 s3 s4 s5 s6
  clear r0 r1 r2 r3 r4 r5 r6 r7 r8 r9 r10 r11 r12 r13 r14 r15 r16 r17 r18 r19
  refine wpList_store_state rfl (.tmp 3) (.tmp 24) rfl rfl b _ ⟨.slice B0 s.on.length d0, nilV, .slice B2 s.holds.length d2, .slice B3 s.moves.length d3, .slice B4 s.inn.length d4, .slice B5 s.out.length d5, .slice B6 s.fixed.length d6, vs, []⟩ hbox rfl rfl rfl (fun w3 hbox3 hg3 => ?_)
  have hbw : Below W1.heap.size W1 w3 := hb2.grown hg3 hb2.size (fun k hk => by injection hk with hk; omega)
  have hO3 : OwnSt w3 W1.heap.size ⟨.slice B0 s.on.length d0, nilV, .slice B2 s.holds.length d2, .slice B3 s.moves.length d3, .slice B4 s.inn.length d4, .slice B5 s.out.length d5, .slice B6 s.fixed.length d6, vs, []⟩ (upTo s 0) :=
    hO2.out.keptBy hg3 hbox.blk (by decide) (by decide) (by decide) (by decide) (by decide) (by decide)
  have hO3' := Lib.hid hO3
  have hbox3' := Lib.hid hbox3
  clear hO3 hO2 hbox hbox3 hg3 hb2
  have hbwK := hb1.trans (hbw.mono hb1.size)
  obtain ⟨_, x0, x1, x2, x3, x4, x5, x6, _⟩ := hK.out w3 hbwK
  refine wpList_nil ?_
  go_wp2_with fail
  go_loopw [28, 5] (fun i _ wr => ∃ (k : Nat) (V : SV), k ≤ s.orders.length ∧ i = .int .i64 k ∧ OwnSt wr W1.heap.size V (upTo s k) ∧ BoxAt wr b V ∧ Below W1.heap.size W1 wr) (fun i _ _ => s.orders.length - (intOf i).toNat)
  case atStart => exact ⟨0, _, Nat.zero_le _, rfl, hO3'.out, hbox3'.out, hbw⟩
  case round =>
    clear x0 x1 x2 x3 x4 x5 x6 hbw hbwK hO3' hbox3'
    obtain ⟨k, V, hk, rfl, hOw, hbx, hbw⟩ := hrel
    have hOw' := Lib.hid hOw
    have hbx' := Lib.hid hbx
    clear hOw hbx
    have hB := hB1.trans (hbw.mono hB1.size)
    have hbwK := hb1.trans (hbw.mono hb1.size)
    by_cases hlt : k < s.orders.length
    · obtain ⟨A', c', hok1, hAb1, e0, e1, hsl⟩ := (hO.out wr hB).order hlt
      obtain ⟨l1, l3⟩ := hsH.out.lines3 hlt
      change 1 ≤ (orderAt s.orders k).lines.length at l1
      change (orderAt s.orders k).lines.length ≤ 3 at l3
      have hwa : Below wr.heap.size wr (wr.alloc (.cells #[.int .i64 (orderAt s.orders k).kind, .slice A' (orderAt s.orders k).lines.length c'] 58)) := (Below.refl _ _).alloc (Nat.le_refl _) _
      have hla : wr.heap.size < (wr.alloc (.cells #[.int .i64 (orderAt s.orders k).kind, .slice A' (orderAt s.orders k).lines.length c'] 58)).heap.size := by simp
      have hob : Blk (wr.alloc (.cells #[.int .i64 (orderAt s.orders k).kind, .slice A' (orderAt s.orders k).lines.length c'] 58)) wr.heap.size 58 [.int .i64 (orderAt s.orders k).kind, .slice A' (orderAt s.orders k).lines.length c'] := Blk.new _ _ _
      have hob' := Lib.hid hob
      clear hob
      go_wp2_with fail
      clear e0 e1
      refine (cloneLine _ _ (orderAt s.orders k).lines (hsl.grow hwa) (by omega)).mono ?_
      rintro e W4 ⟨u, rfl, hu, hb4⟩
      generalize hWa : wr.alloc (.cells #[.int .i64 (orderAt s.orders k).kind, .slice A' (orderAt s.orders k).lines.length c'] 58) = Wa at hwa hla hob' hu hb4
      clear hWa hsl
      obtain ⟨Au, cu, rfl⟩ := hu.isSlice
      have hb14 := hwa.trans (hb4.mono hwa.size)
      have hob4 := hob'.out.below hb4 hla
      have hob4' := Lib.hid hob4
      have hu' := Lib.hid hu
      have z0 := hob4.cell (j := 0) rfl
      have z1 := hob4.cell (j := 1) rfl
      have zf := hob4.frozen 1
      have hBx4 := hbx'.out.below hb14 hbx'.out.lt
      have y1 := hBx4.cells.2.1
      have hbne : b ≠ wr.heap.size := Nat.ne_of_lt hbx'.out.lt
      have hbne' : wr.heap.size ≠ b := fun e => hbne e.symm
      have hBx4' := Lib.hid hBx4
      clear hob4 hu hBx4 hob'
      go_wp2_with (first | (at_builtin; refine Hid.out ?_) | fail)
      unfold Hid
      have hb15 : Below wr.heap.size wr (W4.setCell ⟨wr.heap.size, 1, none⟩ (Value.slice Au (orderAt s.orders k).lines.length cu)) := hb14.setCell (Nat.le_refl _) _
      have hb16 : Below wr.heap.size wr ((W4.setCell ⟨wr.heap.size, 1, none⟩ (Value.slice Au (orderAt s.orders k).lines.length cu)).alloc (.cells #[.int .i64 (orderAt s.orders k).kind, Value.slice Au (orderAt s.orders k).lines.length cu] 58)) := hb15.alloc hb15.size _
      have hu6 : Own cLine 4 70 ((W4.setCell ⟨wr.heap.size, 1, none⟩ (Value.slice Au (orderAt s.orders k).lines.length cu)).alloc (.cells #[.int .i64 (orderAt s.orders k).kind, Value.slice Au (orderAt s.orders k).lines.length cu] 58)) W1.heap.size (Value.slice Au (orderAt s.orders k).lines.length cu) (orderAt s.orders k).lines :=
        ((hu'.out.kept (set_row hob4'.out 1 _).2 (.inr fun he => by have := (hu'.out.size _ he).1; omega)).alloc _).from_ (Nat.le_trans hbw.size hwa.size)
      have huf : ∀ g, Value.ownBlock (Value.slice Au (orderAt s.orders k).lines.length cu) = some g → wr.heap.size ≤ g := fun g hg => by
        have := (hu'.out.size g hg).1
        omega
      have hlo : (ords (upTo s k).orders V.lines).length ≤ 1000000 := by
        rw [ords_length hOw'.out.llen]
        show (s.orders.take k).length ≤ 1000000
        rw [List.length_take]
        omega
      have hBx6 : BoxAt ((W4.setCell ⟨wr.heap.size, 1, none⟩ (Value.slice Au (orderAt s.orders k).lines.length cu)).alloc (.cells #[.int .i64 (orderAt s.orders k).kind, Value.slice Au (orderAt s.orders k).lines.length cu] 58)) b V := (hbx'.out.below hb16 hbx'.out.lt)
      have hO6 := hOw'.out.below hb16
      have hBx6' := Lib.hid hBx6
      clear hBx6
      have hcn := cells_new (W4.setCell ⟨wr.heap.size, 1, none⟩ (Value.slice Au (orderAt s.orders k).lines.length cu)) #[.int .i64 (orderAt s.orders k).kind, Value.slice Au (orderAt s.orders k).lines.length cu] 58
      rw [show (W4.setCell ⟨wr.heap.size, 1, none⟩ (Value.slice Au (orderAt s.orders k).lines.length cu)).heap.size = W4.heap.size by simp [World.setCell]] at hcn
      refine wpList_push _ rfl (.tmp 37) (.tmp 39) 27 58 rfl W1.heap.size _ 2 32 Try.underlying27 infoOrder rfl (by decide) (by decide) V.orders (ords (upTo s k).orders V.lines) ((orderAt s.orders k).kind, Value.slice Au (orderAt s.orders k).lines.length cu) rfl hO6.orders ⟨W4.heap.size, 0, none⟩ 1 rfl rfl hcn (oneOrd _ rfl) hlo (Nat.le_trans hbw.size hb16.size) ?_
      intro v7 w7 hown7 hg7 hat7 hbel7
      have hO7 := hOw'.out.pushOrder hb16 (x := orderAt s.orders k) hu6 huf hg7 hown7
      have hBx7 : BoxAt w7 b V := hBx6'.out.grown hg7 (fun he => by
        rcases hO6.orders.notBox hBx6'.out.blk (by decide) with h | h
        · rw [h] at he; cases he
        · exact h he.symm)
      have hbw7 : Below W1.heap.size W1 w7 := (hbw.trans (hb16.mono hbw.size)).trans hbel7
      obtain ⟨Av, cv, hv7⟩ := hown7.isSlice
      simp only [List.length_append, List.length_cons, List.length_nil, Nat.zero_add] at hv7
      subst hv7
      obtain ⟨vv, hvv⟩ : ∃ x, x = Value.slice Av ((ords (upTo s k).orders V.lines).length + 1) cv := ⟨_, rfl⟩
      have hO8 := hO7.box hBx7 1 vv
      have hBx8 := hBx7.setOrders vv
      rw [← upTo_succ hlt] at hO8
      have hbw8 := hbw7.setCell (p := ⟨b, 1, none⟩) hbb vv
      rw [hvv] at hO8 hBx8 hbw8
      clear hvv vv
      have hO8' := Lib.hid hO8
      have hBx8' := Lib.hid hBx8
      have q1 := hBx7.cells.2.1
      have qf := hBx7.frozen 1
      clear hO8 hBx8 hO7 hBx7 hO6 hown7 hg7 hat7 hbel7 huf hu6 hb14 hb15 hb16 hb4 hwa hla hlo z0 z1 zf y1
      go_wp2_with fail
      go_roundw
      case rel => exact ⟨k + 1, _, by omega, by go_num, hO8'.out, hBx8'.out, hbw8⟩
      case measure => simp [intOf]; omega
    · obtain rfl : k = s.orders.length := by omega
      rw [upTo_all] at hOw'
      have hR1 : Blk wr (w.heap.size + 1) _ _ := hsE.out ▸ hBlk0.out.below hbw hs1
      have hfz := hR1.frozen
      obtain ⟨b0, b1, b2, b3, b4, b5, b6⟩ := hbx'.out.cells
      have hone : V.cells.all (fun u => u.oneCell') = true := by
        have h := hOw'.out
        simp [SV.cells, own_one h.on, own_one h.orders, own_one h.holds, own_one h.moves, own_one h.inn, own_one h.out, own_one h.fixed]
      have hbx1 : BoxAt wr (w.heap.size + 1) ⟨nilV, nilV, nilV, nilV, nilV, nilV, nilV, [], []⟩ := hR1
      clear hfz
      go_wp2_with (refine wpList_store_state rfl (.tmp 2) (.tmp 43) rfl rfl (w.heap.size + 1) _ V hbx1 rfl rfl hone (fun w9 hbox9 hg9 => ?_))
      have hO9 := hOw'.out.keptBy hg9 hbx1.blk (by decide) (by decide) (by decide) (by decide) (by decide) (by decide)
      obtain ⟨p0, p1, p2, p3, p4, p5, p6⟩ := hbox9.cells
      have hbz : w.heap.size ≤ w.heap.size + 1 := by omega
      have hfin : Below w.heap.size w w9 := hB.grown hg9 hB.size (fun k hk => by injection hk with hk; omega)
      have hsB : w.heap.size ≤ W1.heap.size := hB1.size
      clear b0 b1 b2 b3 b4 b5 b6
      go_wp2_with fail
      exact bodyPost_ret (v := V.val) (by simp [results, Try.results10, go_sem, SV.val, p0, p1, p2, p3, p4, p5, p6]) rfl ⟨_, rfl, ⟨V, rfl, hO9.from_ hsB⟩, hfin⟩
end Wh
