/- slices.Clone, slices.Delete at structs: walks. (Printed by gen_sl.py.) -/
import Derived.Test.YteafeopekfhnnaaMemK
import Derived.Test.YteafeopekfhnnaaWalkJ
import Derived.Deep.RegionLaw
namespace Wh
open Go Go.RowKit Go.Shelf Go.Proofs
attribute [local go_sem] run_indexAt_letter
theorem erase_flat {α : Type} (enc : α → List Value) (l : List α) (k : Nat) : (l.eraseIdx k).flatMap enc = (l.take k).flatMap enc ++ (l.drop (k + 1)).flatMap enc := by
  rw [List.eraseIdx_eq_take_drop_succ, List.flatMap_append]

theorem infoHold : Elem Try.prog 58 (.agg #[.int .i64 0, .int .i64 0, .int .i64 0, .int .i64 0]) 4 32 := elem_of (by kernel_rfl)
theorem oneHold (x : Hold) : ∀ u ∈ cHold x, u.oneCell' = true := by simp [cHold, Value.oneCell']
set_option maxHeartbeats 1000000 in
theorem cloneHold (w : World) (v : Value) (l : List Hold) (hv : Sl cHold w w.heap.size v l) (hn : l.length ≤ 1000000) :
    Calls Try.prog 56 #[v] w (Gives (fun u w' => Own cHold 4 58 w' w.heap.size u l) w) := by
  obtain ⟨A, c, rfl, hl, hA⟩ := hv
  have qT : ∀ (w : World) (a : Option Addr) (n c n' c' : Nat), (binOp .eql 49 (.slice a n c) (.slice none n' c')).run Try.prog w = .ok (.bool a.isNone) w := fun w a n c n' c' => Lib.run_eql_slice_nil w _ _ a n c n' c' Try.underlying49
  cases A with
  | none =>
    have h0 : l = [] := by
      cases l with
      | nil => rfl
      | cons x r => exact absurd (hA.ok (by simp [cHold])) (by rintro ⟨b, off, h⟩; cases h)
    subst h0
    go_enter Try.func56, Try.ntmps56
    go_wp2_with (at_builtin; refine Hid.out ?_)
    go_ret
    exact ⟨_, rfl, Own.nil, Below.refl _ _⟩
  | some ad =>
    go_enter Try.func56, Try.ntmps56
    go_wp2_with (at_builtin; refine Hid.out ?_)
    unfold Hid
    refine wpList_all _ rfl (.tmp 5) (.tmp 6) 49 58 rfl w.heap.size _ 4 32 Try.underlying49 infoHold rfl (by decide) (by decide) (.slice (some ⟨w.heap.size, 0, none⟩) 0 0) ([] : List Hold) l rfl (Own.made0 w _ (Nat.le_refl _)) (some ad) c w.heap.size rfl (fun _ => rfl)
      (hA.up ((Below.refl _ _).alloc (Nat.le_refl _) _) (Nat.le_refl _)) (fun y => oneHold y) (by simpa using hn) (by simp) ?_
    intro v1 w1 hown1 hg1 hat1 hbel1
    go_wp2_with fail
    go_ret
    exact ⟨_, rfl, by simpa using hown1, ((Below.refl _ _).alloc (Nat.le_refl _) _).trans hbel1⟩
theorem zeroHold (w : World) : (zeroValue 58).run Try.prog w = .ok (.agg #[.int .i64 0, .int .i64 0, .int .i64 0, .int .i64 0]) w := by kernel_rfl
set_option maxHeartbeats 2000000 in
theorem delHold (w : World) (base : Nat) (v : Value) (l : List Hold) (k : Nat) (hown : Own cHold 4 58 w base v l) (hk : k < l.length) (hn : l.length ≤ 1000000) :
    Calls Try.prog 55 #[v, .int .i64 k, .int .i64 ((k : Int) + 1)] w fun e w' =>
      ∃ v', e = .returned v' ∧ Own cHold 4 58 w' base v' (l.eraseIdx k) ∧ w.grownBy w' v.ownBlock ∧ v'.ownBlock = v.ownBlock := by
  obtain ⟨g, cap, cur, rfl, hbg, hg, hlc, hcm, hcs, htake⟩ := hown.row (by omega)
  obtain ⟨i0, hi0, hz0, hsz0, hby0⟩ := infoHold
  have hk4 : ∀ x, (cHold x).length = 4 := fun _ => rfl
  obtain ⟨cs, hcsd⟩ : ∃ cs, cs = (l.drop (k + 1)).flatMap cHold := ⟨_, rfl⟩
  have hcl : cs.length = (l.length - (k + 1)) * 4 := by rw [hcsd, flat_length cHold 4 hk4, List.length_drop]
  have hc1 : ∀ u ∈ cs, u.oneCell' = true := fun u hu => by
    rw [hcsd] at hu
    obtain ⟨y, _, hy⟩ := List.mem_flatMap.1 hu
    exact oneHold y u hy
  obtain ⟨A, hA, hsrc⟩ : ∃ A : Addr, (if cap = k + 1 then some (⟨g, 0, none⟩ : Addr) else some ⟨g, (k + 1) * 4, none⟩) = some A ∧ Hid (∀ j u, cs[j]? = some u → w.drew.cell? (A.add j) = some u) := by
    by_cases h : cap = k + 1
    · refine ⟨⟨g, 0, none⟩, by rw [if_pos h], fun j u hj => ?_⟩
      have := (List.getElem?_eq_some_iff.1 hj).1
      omega
    · refine ⟨⟨g, (k + 1) * 4, none⟩, by rw [if_neg h], fun j u hj => ?_⟩
      rw [Addr.add_lit]
      refine hg.drew.cell ?_
      have hjl := (List.getElem?_eq_some_iff.1 hj).1
      have e1 : (cur.take (l.length * 4))[(k + 1) * 4 + j]? = some u := by
        rw [htake, ← List.getElem?_drop, flat_drop cHold 4 hk4, ← hcsd]
        exact hj
      rw [List.getElem?_take] at e1
      split at e1
      · exact e1
      · cases e1
  have hzl : ∀ n, (Builtin.zeroCells #[.int .i64 0, .int .i64 0, .int .i64 0, .int .i64 0] n).toList.length = n * 4 := fun n => by rw [Array.length_toList]; exact zeroCells_length _ n
  have hcur : l.length * 4 ≤ cur.length := by rw [hcs]; exact Nat.mul_le_mul_right _ hlc
  have hrun : ∀ ty, (Builtin.append_ #[49, 49] ty #[.slice (some ⟨g, 0, none⟩) k cap, .slice (some A) (l.length - (k + 1)) (cap - (k + 1))]).run Try.prog w.drew =
      .ok (.slice (some ⟨g, 0, none⟩) (k + (l.length - (k + 1))) cap) (w.drew.setRow g (spl cur (k * 4) cs).toArray) := fun ty => by
    have h := run_append_blk (P := Try.prog) w.drew 49 ty 58 i0 Try.underlying49 hi0 g k cap (.slice (some A) (l.length - (k + 1)) (cap - (k + 1))) (l.length - (k + 1)) cs cur hg.drew rfl
      (by rw [hsz0]; exact run_firstCells_some w.drew 4 _ A _ _ cs hcl hsrc.out) (by omega) (by rw [hsz0, hcl]; omega) hc1
    rw [hsz0] at h
    exact h
  obtain ⟨W1, hW1⟩ : ∃ W1, W1 = w.drew.setRow g (spl cur (k * 4) cs).toArray := ⟨_, rfl⟩
  rw [← hW1] at hrun
  have hg1 : Blk W1 g 58 (spl cur (k * 4) cs) := by rw [hW1]; exact hg.drew.row _
  have hl1 : (spl cur (k * 4) cs).length = cur.length := spl_length (by rw [hcl]; omega)
  have hclr : ∀ ty, (Builtin.clear_ #[49] ty #[.slice (some ⟨g, (k + (l.length - (k + 1))) * 4, none⟩) (l.length - (k + (l.length - (k + 1)))) (cap - (k + (l.length - (k + 1))))]).run Try.prog W1 =
      .ok (.tuple #[]) (W1.setRow g (spl (spl cur (k * 4) cs) ((k + (l.length - (k + 1))) * 4) (Builtin.zeroCells #[.int .i64 0, .int .i64 0, .int .i64 0, .int .i64 0] (l.length - (k + (l.length - (k + 1))))).toList).toArray) := fun ty =>
    run_clear_blk (P := Try.prog) W1 49 58 ty _ Try.underlying49 zeroHold (by simp [Value.cells, Value.oneCell']) g _ _ _ _ hg1 (by omega) (by rw [hl1]; simp [Value.cells]; omega)
  have hfin : ∃ cur2, Blk (W1.setRow g (spl (spl cur (k * 4) cs) ((k + (l.length - (k + 1))) * 4) (Builtin.zeroCells #[.int .i64 0, .int .i64 0, .int .i64 0, .int .i64 0] (l.length - (k + (l.length - (k + 1))))).toList).toArray) g 58 cur2 ∧ cur2.length = cap * 4 ∧ cur2.take ((l.eraseIdx k).length * 4) = (l.eraseIdx k).flatMap cHold := by
    refine ⟨_, hg1.row _, ?_, ?_⟩
    · rw [spl_length (by rw [hl1, hzl]; omega), hl1, hcs]
    · have e1 : (l.eraseIdx k).length * 4 = (k + (l.length - (k + 1))) * 4 := by rw [List.length_eraseIdx, if_pos hk]; omega
      rw [e1, spl_lo (by rw [hl1]; omega)]
      have e2 : (k + (l.length - (k + 1))) * 4 = k * 4 + cs.length := by rw [hcl, Nat.add_mul]
      rw [e2, spl_hi (by omega), erase_flat, hcsd]
      congr 1
      have e3 : cur.take (k * 4) = (cur.take (l.length * 4)).take (k * 4) := by rw [List.take_take, Nat.min_eq_left (by omega)]
      rw [e3, htake, flat_take cHold 4 hk4]
  have hgr : w.grownBy (W1.setRow g (spl (spl cur (k * 4) cs) ((k + (l.length - (k + 1))) * 4) (Builtin.zeroCells #[.int .i64 0, .int .i64 0, .int .i64 0, .int .i64 0] (l.length - (k + (l.length - (k + 1))))).toList).toArray) (some g) := by
    rw [hW1]
    have g1 := grown_row w.drew g (spl cur (k * 4) cs).toArray
    have g2 := grown_row (w.drew.setRow g (spl cur (k * 4) cs).toArray) g (spl (spl cur (k * 4) cs) ((k + (l.length - (k + 1))) * 4) (Builtin.zeroCells #[.int .i64 0, .int .i64 0, .int .i64 0, .int .i64 0] (l.length - (k + (l.length - (k + 1))))).toList).toArray
    exact ⟨g2.os.trans g1.os, g2.tape.trans g1.tape, g2.output.trans g1.output, Nat.le_trans g1.size g2.size, fun q hq hne => (g2.block q (Nat.lt_of_lt_of_le hq g1.size) hne).trans (g1.block q hq hne)⟩
  obtain ⟨W2, hW2⟩ : ∃ W2, W2 = W1.setRow g (spl (spl cur (k * 4) cs) ((k + (l.length - (k + 1))) * 4) (Builtin.zeroCells #[.int .i64 0, .int .i64 0, .int .i64 0, .int .i64 0] (l.length - (k + (l.length - (k + 1))))).toList).toArray := ⟨_, rfl⟩
  rw [← hW2] at hclr hfin hgr
  have hlen2 : (l.eraseIdx k).length = k + (l.length - (k + 1)) := by rw [List.length_eraseIdx, if_pos hk]; omega
  have hfin' := Lib.hid hfin
  have hgr' := Lib.hid hgr
  have hlen2' := Lib.hid hlen2
  have hw1 : IntKind.i64.wrap ((k : Int) + 1) = (k : Int) + 1 := by rw [IntKind.wrap_i64]; omega
  have hkc : k ≤ cap := by omega
  have hk1c : k + 1 ≤ cap := by omega
  have hcm' : cap ≤ 9223372036854775807 := by unfold maxLen at hcm; omega
  have hcmh := Lib.hid hcm
  have hlch := Lib.hid hlc
  have hkne : ¬ ((k : Int) = (k : Int) + 1) := by omega
  have hb1 : (0 : Int) ≤ (k : Int) + 1 := by omega
  have hb2 : (k : Int) + 1 ≤ (l.length : Int) := by omega
  have hb3 : (k : Int) ≤ (l.length : Int) := by omega
  have htn : ((k : Int) + 1).toNat = k + 1 := by omega
  have hl2 : k + (l.length - (k + 1)) < l.length := by omega
  have hl3 : ¬ (cap = k + (l.length - (k + 1))) := by omega
  clear hcsd hcm hi0 hg hcl hW1 hW2 hg1 hl1 hfin hgr hlen2 hcs htake hcur hc1
  go_enter Try.func55, Try.ntmps55
  go_wp2_with fail
  go_region_law (refine step_append_at _ rfl (.tmp 22) (.tmp 25) 49 49 rfl (.slice (some ⟨g, 0, none⟩) k cap) (.slice (some A) (l.length - (k + 1)) (cap - (k + 1))) (by simp [Act.eval, Act.put]) (by simp [Act.eval, Act.put]) (hrun _) ?_)
  go_wp2_with fail
  go_ret
  obtain ⟨cur2, c1, c2, c3⟩ := hfin'.out
  refine ⟨_, rfl, ?_, hgr'.out, rfl⟩
  rw [← hlen2'.out]
  exact Own.of_row hk4 hbg c1 (by rw [hlen2'.out]; have := hlch.out; omega) hcmh.out c2 c3



end Wh
