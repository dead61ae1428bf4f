/- slices.Insert at holds: walk -/
import Derived.Test.YteafeopekfhnnaaLibSl
namespace Wh
open Go Go.RowKit Go.Shelf Go.Proofs
attribute [local go_sem] run_indexAt_letter

theorem ins_flat {α : Type} (enc : α → List Value) (l : List α) (k : Nat) (x : α) : (l.take k ++ x :: l.drop k).flatMap enc = (l.take k).flatMap enc ++ enc x ++ (l.drop k).flatMap enc := by
  simp
theorem ins_length {α : Type} (l : List α) (k : Nat) (x : α) (h : k ≤ l.length) : (l.take k ++ x :: l.drop k).length = l.length + 1 := by
  simp; omega
/-- What an insertion gives. -/
def InsPost (base : Nat) (w : World) (l : List Hold) (e : Ending) (w' : World) : Prop := ∃ v', e = .returned v' ∧ Own cHold 4 58 w' base v' l ∧ Below base w w'

set_option maxHeartbeats 2000000 in
/-- At the end. -/
theorem insEnd (w : World) (base : Nat) (v : Value) (l : List Hold) (x : Hold) (vb : Nat) (hown : Own cHold 4 58 w base v l) (hn : l.length ≤ 100000) (hbase : base ≤ w.heap.size) (hx : Blk w vb 58 (cHold x)) :
    Calls Try.prog 63 #[v, .int .i64 l.length, .slice (some ⟨vb, 0, none⟩) 1 1] w (InsPost base w (l ++ [x])) := by
  have hcx : ∀ j u, (cHold x)[j]? = some u → w.cell? ((⟨vb, 0, none⟩ : Addr).add j) = some u := fun j u hj => by rw [Addr.add_lit, Nat.zero_add]; exact hx.cell hj
  obtain ⟨A, c, rfl⟩ := hown.isSlice
  by_cases h0 : l.length = 0
  · obtain rfl : l = [] := List.eq_nil_of_length_eq_zero h0
    have hA : A = none ∨ ∃ g cap, A = some ⟨g, 0, none⟩ ∧ c = cap := by
      rcases hown.2 with ⟨h1, _⟩ | ⟨g, cap, cur, h1, _⟩
      · left; simp at h1; exact h1.1
      · right; simp at h1; exact ⟨g, cap, h1.1, h1.2⟩
    have hcap : c ≤ 9223372036854775807 := by
      rcases hown.2 with ⟨h1, _⟩ | ⟨g, cap, cur, h1, _, _, _, h5, _⟩
      · simp at h1; omega
      · simp at h1; unfold maxLen at h5; omega
    rcases hA with rfl | ⟨g, cap, rfl, rfl⟩
    all_goals
      go_enter Try.func63, Try.ntmps63
      go_wp2_with (at_builtin; refine Hid.out ?_)
      all_goals
        unfold Hid
        refine wpList_push _ rfl (.tmp 23) (.tmp 24) 49 58 rfl base _ 4 32 Try.underlying49 infoHold rfl (by decide) (by decide) _ [] x rfl hown ⟨vb, 0, none⟩ 1 rfl rfl hcx (oneHold x) (by simp) hbase ?_
        intro v1 w1 hown1 hg1 hat1 hbel1
        go_wp2_with fail
        go_ret
        exact ⟨_, rfl, hown1, hbel1⟩
  · obtain ⟨g, cap, cur, hv, hbg, hg, hlc, hcm, hcs, htake⟩ := hown.row (by omega)
    injection hv with h1 h2 h3
    subst h1 h3
    have hcm' : c ≤ 9223372036854775807 := by unfold maxLen at hcm; omega
    have hg' := Lib.hid hg
    clear hcm hcs htake hg
    have hce : c = l.length ∨ l.length < c := by omega
    rcases hce with rfl | hce
    all_goals
      go_enter Try.func63, Try.ntmps63
      go_wp2_with (at_builtin; refine Hid.out ?_)
      unfold Hid
      refine wpList_push _ rfl (.tmp 23) (.tmp 24) 49 58 rfl base _ 4 32 Try.underlying49 infoHold rfl (by decide) (by decide) _ l x rfl hown ⟨vb, 0, none⟩ 1 rfl rfl hcx (oneHold x) (by omega) hbase ?_
      intro v1 w1 hown1 hg1 hat1 hbel1
      go_wp2_with fail
      go_ret
      exact ⟨_, rfl, hown1, hbel1⟩

set_option maxHeartbeats 4000000 in
set_option maxRecDepth 100000 in
/-- Ahead of others, with no room: a new row. -/
theorem insGrow (w : World) (base : Nat) (l : List Hold) (x : Hold) (k g vb : Nat) (cur : List Value) (hk : k < l.length) (hn : l.length ≤ 100000) (hbase : base ≤ w.heap.size)
    (hg : Blk w g 58 cur) (htake : cur = l.flatMap cHold) (hx : Blk w vb 58 (cHold x)) :
    Calls Try.prog 63 #[.slice (some ⟨g, 0, none⟩) l.length l.length, .int .i64 k, .slice (some ⟨vb, 0, none⟩) 1 1] w (InsPost base w (l.take k ++ x :: l.drop k)) := by
  have hk4 : ∀ x, (cHold x).length = 4 := fun _ => rfl
  obtain ⟨i0, hi0, hz0, hsz0, hby0⟩ := infoHold
  have hcx : ∀ j u, (cHold x)[j]? = some u → w.cell? ((⟨vb, 0, none⟩ : Addr).add j) = some u := fun j u hj => by rw [Addr.add_lit, Nat.zero_add]; exact hx.cell hj
  obtain ⟨G, hG⟩ : ∃ G, G = grownCap w (l.length + 1) l.length 58 := ⟨_, rfl⟩
  have hGn : l.length + 1 ≤ G := by rw [hG]; exact grownCap_ge w _ _ _
  have hGm : G ≤ maxLen := by rw [hG]; exact grownCap_le_maxLen w _ _ _ (by unfold maxLen; omega)
  have hG63 : G ≤ 9223372036854775807 := by unfold maxLen at hGm; omega
  have hzl : ∀ n, (Builtin.zeroCells #[.int .i64 0, .int .i64 0, .int .i64 0, .int .i64 0] n).toList.length = n * 4 := fun n => by rw [Array.length_toList]; exact zeroCells_length _ n
  obtain ⟨R, hR⟩ : ∃ R : List Value, R = (l.take k).flatMap cHold ++ (Builtin.zeroCells #[.int .i64 0, .int .i64 0, .int .i64 0, .int .i64 0] (l.length + 1 - k)).toList ++ (Builtin.zeroCells #[.int .i64 0, .int .i64 0, .int .i64 0, .int .i64 0] (G - (l.length + 1))).toList := ⟨_, rfl⟩
  have hRl : R.length = G * 4 := by
    rw [hR, List.length_append, List.length_append, flat_length cHold 4 hk4, List.length_take, hzl, hzl]
    omega
  have hold : (Builtin.firstCells i0.size k (.slice (some ⟨g, 0, none⟩) k l.length)).run Try.prog w.drew = .ok ((l.take k).flatMap cHold).toArray w.drew := by
    rw [hsz0]
    exact run_firstCells_some w.drew 4 k ⟨g, 0, none⟩ k l.length ((l.take k).flatMap cHold) (by rw [flat_length cHold 4 hk4, List.length_take]; omega) (fun j v hj => by
      rw [Addr.add_lit, Nat.zero_add]
      refine hg.drew.cell ?_
      rw [← flat_take cHold 4 hk4, List.getElem?_take] at hj
      split at hj
      · rw [htake]; exact hj
      · cases hj)
  have hrz : ∀ ty, (Builtin.append_ #[49, 3] ty #[.slice (some ⟨g, 0, none⟩) k l.length, .int .i64 ((l.length : Int) + 1 - (k : Int))]).run Try.prog w =
      .ok (.slice (some ⟨w.heap.size, 0, none⟩) (l.length + 1) G) (w.drew.alloc (.cells R.toArray 58)) := fun ty => by
    have h := Lib.run_append_grow_zeros w 49 3 ty 58 i0 _ .i64 .i64 Try.underlying49 Try.underlying3 hi0 hz0 (some ⟨g, 0, none⟩) k l.length ((l.take k).flatMap cHold) hold (l.length + 1 - k) (by omega) (by omega) (by omega) (by omega) (by rw [hby0]; omega)
      (by rw [hby0, show k + (l.length + 1 - k) = l.length + 1 by omega]; exact growslice_fits (by omega) (by omega))
    rw [show k + (l.length + 1 - k) = l.length + 1 by omega, ← hG, show ((l.length + 1 - k : Nat) : Int) = (l.length : Int) + 1 - (k : Int) by omega] at h
    rw [h, hR]
    congr 3
    apply Array.ext'
    simp [Value.cells]
  obtain ⟨W1, hW1⟩ : ∃ W1, W1 = w.drew.alloc (.cells R.toArray 58) := ⟨_, rfl⟩
  rw [← hW1] at hrz
  have hN : Blk W1 w.heap.size 58 R := by rw [hW1]; exact Blk.new w.drew _ R.toArray
  have hgW : Blk W1 g 58 cur := by
    rw [hW1]
    exact hg.drew.alloc _
  have hxW : Blk W1 vb 58 (cHold x) := by
    rw [hW1]
    exact hx.drew.alloc _
  have hs4 : (Try.prog.info? 58).map (·.size) = some 4 := by rw [hi0]; simp [hsz0]
  have hR1 : (spl R (k * 4) (cHold x)).length = R.length := spl_length (by rw [hk4, hRl]; omega)
  have hcp1 : ∀ ty, (Builtin.copy_ #[49, 49] ty #[.slice (some ⟨w.heap.size, k * 4, none⟩) (l.length + 1 - k) (G - k), .slice (some ⟨vb, 0, none⟩) 1 1]).run Try.prog W1 = .ok (goInt 1) (W1.setRow w.heap.size (spl R (k * 4) (cHold x)).toArray) := fun ty =>
    run_copy_blk (P := Try.prog) W1 _ _ ty 58 4 w.heap.size (k * 4) _ _ ⟨vb, 0, none⟩ 1 1 R 58 (cHold x) Try.underlying49 hs4 hN 1 (by simp only [Nat.min_def]; split <;> omega) (hk4 x) (fun j u hj => by rw [Addr.add_lit, Nat.zero_add]; exact hxW.cell hj) (by rw [hk4, hRl]; omega) (oneHold x)
  obtain ⟨W2, hW2⟩ : ∃ W2, W2 = W1.setRow w.heap.size (spl R (k * 4) (cHold x)).toArray := ⟨_, rfl⟩
  rw [← hW2] at hcp1
  have hN2 : Blk W2 w.heap.size 58 (spl R (k * 4) (cHold x)) := by rw [hW2]; exact hN.row _
  have hgW2 : Blk W2 g 58 cur := by rw [hW2]; exact hgW.other (by have := hg.lt; omega) _
  have hds : (l.drop k).flatMap cHold = cur.drop (k * 4) := by rw [htake, flat_drop cHold 4 hk4]
  have hdl : ((l.drop k).flatMap cHold).length = (l.length - k) * 4 := by rw [flat_length cHold 4 hk4, List.length_drop]
  have hcp2 : ∀ (W : World), W.heap = W2.heap → ∀ ty, (Builtin.copy_ #[49, 49] ty #[.slice (some ⟨w.heap.size, (k + 1) * 4, none⟩) (l.length + 1 - (k + 1)) (G - (k + 1)), .slice (some ⟨g, k * 4, none⟩) (l.length - k) (l.length - k)]).run Try.prog W =
      .ok (goInt (l.length - k : Nat)) (W.setRow w.heap.size (spl (spl R (k * 4) (cHold x)) ((k + 1) * 4) ((l.drop k).flatMap cHold)).toArray) := fun W hW ty =>
    run_copy_blk (P := Try.prog) W _ _ ty 58 4 w.heap.size ((k + 1) * 4) _ _ ⟨g, k * 4, none⟩ _ _ (spl R (k * 4) (cHold x)) 58 ((l.drop k).flatMap cHold) Try.underlying49 hs4 (by unfold Blk; rw [hW]; exact hN2) (l.length - k) (by simp only [Nat.min_def]; split <;> omega) hdl
      (fun j u hj => by
        rw [Addr.add_lit]
        have hgW3 : Blk W g 58 cur := by unfold Blk; rw [hW]; exact hgW2
        refine hgW3.cell ?_
        rw [hds, List.getElem?_drop] at hj
        exact hj)
      (by rw [hdl, hR1, hRl]; omega) (fun u hu => by
        obtain ⟨y, _, hy⟩ := List.mem_flatMap.1 hu
        exact oneHold y u hy)
  have hfin : ∀ (W : World), W.heap = W2.heap → W.os = W2.os → W.tape = W2.tape → W.output = W2.output → InsPost base w (l.take k ++ x :: l.drop k) (.returned (.slice (some ⟨w.heap.size, 0, none⟩) (l.length + 1) G)) (W.setRow w.heap.size (spl (spl R (k * 4) (cHold x)) ((k + 1) * 4) ((l.drop k).flatMap cHold)).toArray) := by
    intro W hW e1 e2 e3
    have hNW : Blk W w.heap.size 58 (spl R (k * 4) (cHold x)) := by unfold Blk; rw [hW]; exact hN2
    refine ⟨_, rfl, ?_, ?_⟩
    · rw [show l.length + 1 = (l.take k ++ x :: l.drop k).length from (ins_length l k x (by omega)).symm]
      refine Own.of_row hk4 hbase (hNW.row _) (by rw [ins_length l k x (by omega)]; omega) hGm (by rw [spl_length (by rw [hdl, hR1, hRl]; omega), hR1, hRl]) ?_
      rw [ins_length l k x (by omega), ins_flat, show (l.length + 1) * 4 = (k + 1) * 4 + ((l.drop k).flatMap cHold).length by rw [hdl]; omega, spl_hi (by rw [hR1, hRl]; omega)]
      rw [show (k + 1) * 4 = k * 4 + (cHold x).length by rw [hk4]; omega, spl_hi (by rw [hRl]; omega), hR, List.append_assoc, List.append_assoc, List.take_append_of_le_length (by rw [flat_length cHold 4 hk4, List.length_take]; omega), List.take_of_length_le (by rw [flat_length cHold 4 hk4, List.length_take]; omega), List.append_assoc]
    · have b1 : Below base w W2 := by
        rw [hW2, hW1]
        exact below_row ((((Below.refl base w).drew).alloc hbase _)) hbase _
      have b2 : Below base w W := ⟨e1.trans b1.os, e2.trans b1.tape, e3.trans b1.output, by rw [hW]; exact b1.size, fun q hq => by rw [hW]; exact b1.block q hq⟩
      exact below_row b2 hbase _
  have hfin' := Lib.hid hfin
  have hcp1' : ∀ (W : World), W = W1 → ∀ ty, (Builtin.copy_ #[49, 49] ty #[.slice (some ⟨w.heap.size, k * 4, none⟩) (l.length + 1 - k) (G - k), .slice (some ⟨vb, 0, none⟩) 1 1]).run Try.prog W = .ok (goInt 1) W2 := fun W hW ty => by rw [hW]; exact hcp1 ty
  have hW1' : w.drew.alloc (.cells R.toArray 58) = W1 := hW1.symm
  have hw1 : IntKind.i64.wrap ((k : Int) + 1) = (k : Int) + 1 := by rw [IntKind.wrap_i64]; omega
  have hb1 : (0 : Int) ≤ (k : Int) + 1 := by omega
  have hb2 : (k : Int) + 1 ≤ (l.length : Int) + 1 := by omega
  have hb3 : (k : Int) ≤ (l.length : Int) := by omega
  have htn : ((k : Int) + 1).toNat = k + 1 := by omega
  have hGk : ¬ (G = k) := by omega
  have hGk1 : ¬ (G = k + 1) := by omega
  have hlk : ¬ (l.length = k) := by omega
  have hkl : ¬ ((k : Int) = (l.length : Int)) := by omega
  clear hfin hcp1 hW1 hW2 hN hgW hxW hN2 hgW2 hds hdl hR1 hRl hR hold hG hGm hi0 htake hcx hg hx hs4
  go_enter Try.func63, Try.ntmps63
  go_wp2_with (first
    | (at_builtin; refine Lib.wpList_append_run _ rfl _ _ _ _ rfl _ _ rfl rfl _ _ (hrz _) ?_)
    | (refine wpList_copy_at _ rfl _ _ 49 49 rfl _ _ rfl rfl (hcp1' _ rfl _) ?_))
  go_region_law (refine step_copy_at _ rfl (.tmp 50) (.tmp 53) 49 49 rfl (.slice (some ⟨w.heap.size, (k + 1) * 4, none⟩) (l.length + 1 - (k + 1)) (G - (k + 1))) (.slice (some ⟨g, k * 4, none⟩) (l.length - k) (l.length - k)) (by simp [Act.eval, Act.put]) (by simp [Act.eval, Act.put]) (hcp2 W2.drew rfl _) ?_)
  go_wp2_with fail
  go_ret
  exact hfin'.out W2.drew rfl rfl rfl rfl

theorem spl_drop {L : List Value} {o : Nat} {cs : List Value} (h : o ≤ L.length) : (spl L o cs).drop o = cs ++ L.drop (o + cs.length) := by
  unfold spl
  rw [List.append_assoc, List.drop_append_of_le_length (by rw [List.length_take]; omega), List.drop_of_length_le (by rw [List.length_take]; omega), List.nil_append]

set_option maxHeartbeats 4000000 in
set_option maxRecDepth 100000 in
/-- Ahead of others, with room: in place. -/
theorem insShift (w : World) (base : Nat) (l : List Hold) (x : Hold) (k g vb cap : Nat) (cur : List Value) (hk : k < l.length) (hn : l.length ≤ 100000) (hbg : base ≤ g) (hroom : l.length + 1 ≤ cap) (hcm : cap ≤ maxLen) (hvb : vb ≠ g)
    (hg : Blk w g 58 cur) (hcs : cur.length = cap * 4) (htake : cur.take (l.length * 4) = l.flatMap cHold) (hx : Blk w vb 58 (cHold x)) :
    Calls Try.prog 63 #[.slice (some ⟨g, 0, none⟩) l.length cap, .int .i64 k, .slice (some ⟨vb, 0, none⟩) 1 1] w (InsPost base w (l.take k ++ x :: l.drop k)) := by
  have hk4 : ∀ x, (cHold x).length = 4 := fun _ => rfl
  obtain ⟨i0, hi0, hz0, hsz0, hby0⟩ := infoHold
  have hs4 : (Try.prog.info? 58).map (·.size) = some 4 := by rw [hi0]; simp [hsz0]
  have hcap63 : cap ≤ 9223372036854775807 := by unfold maxLen at hcm; omega
  obtain ⟨D, hD⟩ : ∃ D, D = (l.drop k).flatMap cHold := ⟨_, rfl⟩
  have hDl : D.length = (l.length - k) * 4 := by rw [hD, flat_length cHold 4 hk4, List.length_drop]
  have hD1 : ∀ u ∈ D, u.oneCell' = true := fun u hu => by
    rw [hD] at hu
    obtain ⟨y, _, hy⟩ := List.mem_flatMap.1 hu
    exact oneHold y u hy
  have hov : ∀ lb cb, (callFunc 72 #[.slice (some ⟨vb, 0, none⟩) 1 1, .slice (some ⟨g, (k + 1) * 4, none⟩) lb cb]).run Try.prog w = .ok (.value (.bool false)) w := fun lb cb => by
    rw [run_callFunc_extern (fn := Try.f72) (by kernel_rfl) (by kernel_rfl) (by kernel_rfl) (by kernel_rfl) (e := Extern.SlicesOverlaps.overlaps #[49, 49] #[4]) (by kernel_rfl),
      Lib.run_overlaps_apart w 49 4 58 Try.underlying49 4 Try.sizeOf58 ⟨vb, 0, none⟩ ⟨g, (k + 1) * 4, none⟩ 1 1 lb cb hvb _ _ _ _ hx.shape hg.shape (by rw [hcs]; omega) (hx.frozen _) (hx.frozen _)]
    rfl
  have hsrc : ∀ j v, D[j]? = some v → w.drew.cell? ((⟨g, k * 4, none⟩ : Addr).add j) = some v := fun j v hj => by
    rw [Addr.add_lit]
    refine hg.drew.cell ?_
    rw [hD, ← flat_drop cHold 4 hk4, ← htake, List.getElem?_drop, List.getElem?_take] at hj
    split at hj
    · exact hj
    · cases hj
  have hcp1 : ∀ ty, (Builtin.copy_ #[49, 49] ty #[.slice (some ⟨g, (k + 1) * 4, none⟩) (l.length + 1 - (k + 1)) (cap - (k + 1)), .slice (some ⟨g, k * 4, none⟩) (l.length + 1 - k) (cap - k)]).run Try.prog w.drew =
      .ok (goInt (l.length - k : Nat)) (w.drew.setRow g (spl cur ((k + 1) * 4) D).toArray) := fun ty =>
    run_copy_blk (P := Try.prog) w.drew _ _ ty 58 4 g ((k + 1) * 4) _ _ ⟨g, k * 4, none⟩ _ _ cur 58 D Try.underlying49 hs4 hg.drew (l.length - k) (by simp only [Nat.min_def]; split <;> omega) hDl hsrc (by rw [hDl, hcs]; omega) hD1
  obtain ⟨W1, hW1⟩ : ∃ W1, W1 = w.drew.setRow g (spl cur ((k + 1) * 4) D).toArray := ⟨_, rfl⟩
  rw [← hW1] at hcp1
  have hM : (spl cur ((k + 1) * 4) D).length = cap * 4 := by rw [spl_length (by rw [hDl, hcs]; omega), hcs]
  have hg1 : Blk W1 g 58 (spl cur ((k + 1) * 4) D) := by rw [hW1]; exact hg.drew.row _
  have hx1 : Blk W1 vb 58 (cHold x) := by rw [hW1]; exact hx.drew.other hvb _
  have hcp2 : ∀ ty, (Builtin.copy_ #[49, 49] ty #[.slice (some ⟨g, k * 4, none⟩) (l.length + 1 - k) (cap - k), .slice (some ⟨vb, 0, none⟩) 1 1]).run Try.prog W1 = .ok (goInt 1) (W1.setRow g (spl (spl cur ((k + 1) * 4) D) (k * 4) (cHold x)).toArray) := fun ty =>
    run_copy_blk (P := Try.prog) W1 _ _ ty 58 4 g (k * 4) _ _ ⟨vb, 0, none⟩ 1 1 _ 58 (cHold x) Try.underlying49 hs4 hg1 1 (by simp only [Nat.min_def]; split <;> omega) (hk4 x) (fun j u hj => by rw [Addr.add_lit, Nat.zero_add]; exact hx1.cell hj) (by rw [hk4, hM]; omega) (oneHold x)
  have hfin : InsPost base w (l.take k ++ x :: l.drop k) (.returned (.slice (some ⟨g, 0, none⟩) (l.length + 1) cap)) (W1.setRow g (spl (spl cur ((k + 1) * 4) D) (k * 4) (cHold x)).toArray) := by
    refine ⟨_, rfl, ?_, ?_⟩
    · rw [show l.length + 1 = (l.take k ++ x :: l.drop k).length from (ins_length l k x (by omega)).symm]
      refine Own.of_row hk4 hbg (hg1.row _) (by rw [ins_length l k x (by omega)]; omega) hcm (by rw [spl_length (by rw [hk4, hM]; omega), hM]) ?_
      rw [ins_length l k x (by omega), ins_flat]
      have e1 : spl (spl cur ((k + 1) * 4) D) (k * 4) (cHold x) = (cur.take (k * 4) ++ cHold x) ++ (D ++ cur.drop ((k + 1) * 4 + D.length)) := by
        have a1 : spl (spl cur ((k + 1) * 4) D) (k * 4) (cHold x) = (spl cur ((k + 1) * 4) D).take (k * 4) ++ cHold x ++ (spl cur ((k + 1) * 4) D).drop (k * 4 + (cHold x).length) := rfl
        have a2 : (spl cur ((k + 1) * 4) D).take (k * 4) = cur.take (k * 4) := by
          have : (spl cur ((k + 1) * 4) D).take (k * 4) = ((spl cur ((k + 1) * 4) D).take ((k + 1) * 4)).take (k * 4) := by rw [List.take_take, Nat.min_eq_left (by omega)]
          rw [this, spl_lo (by rw [hcs]; omega), List.take_take, Nat.min_eq_left (by omega)]
        rw [a1, a2, hk4, show k * 4 + 4 = (k + 1) * 4 by omega, spl_drop (by rw [hcs]; omega)]
      have e2 : cur.take (k * 4) = (l.take k).flatMap cHold := by
        have : cur.take (k * 4) = (cur.take (l.length * 4)).take (k * 4) := by rw [List.take_take, Nat.min_eq_left (by omega)]
        rw [this, htake, flat_take cHold 4 hk4]
      rw [e1, e2, ← List.append_assoc, List.take_append_of_le_length (by simp only [List.length_append, hDl, flat_length cHold 4 hk4, List.length_take, hk4]; omega), List.take_of_length_le (by simp only [List.length_append, hDl, flat_length cHold 4 hk4, List.length_take, hk4]; omega), hD]
    · rw [hW1]
      exact below_row (below_row (Below.refl base w).drew hbg _) hbg _
  have hfin' := Lib.hid hfin
  have hw1 : IntKind.i64.wrap ((k : Int) + 1) = (k : Int) + 1 := by rw [IntKind.wrap_i64]; omega
  have hb1 : (0 : Int) ≤ (k : Int) + 1 := by omega
  have hb2 : (k : Int) + 1 ≤ (l.length : Int) + 1 := by omega
  have hb3 : (k : Int) ≤ (l.length : Int) := by omega
  have hb4 : (k : Int) ≤ (l.length : Int) + 1 := by omega
  have htn : ((k : Int) + 1).toNat = k + 1 := by omega
  have hGk : ¬ (cap = k) := by omega
  have hGk1 : ¬ (cap = k + 1) := by omega
  have hkl : ¬ ((k : Int) = (l.length : Int)) := by omega
  clear hfin hW1 hg1 hx1 hD hDl hD1 hsrc hM hi0 htake hcs hg hx hs4 hcm
  go_enter Try.func63, Try.ntmps63
  go_wp2_with (simp only [hov])
  go_region_law (refine step_copy_at _ rfl (.tmp 73) (.tmp 76) 49 49 rfl (.slice (some ⟨g, (k + 1) * 4, none⟩) (l.length + 1 - (k + 1)) (cap - (k + 1))) (.slice (some ⟨g, k * 4, none⟩) (l.length + 1 - k) (cap - k)) (by simp [Act.eval, Act.put]) (by simp [Act.eval, Act.put]) (hcp1 _) ?_)
  go_wp2_with (refine wpList_copy_at _ rfl _ _ 49 49 rfl _ _ rfl rfl (hcp2 _) ?_)
  go_ret
  exact hfin'.out

/-- slices.Insert at holds, one of them. -/
theorem insHold (w : World) (base : Nat) (v : Value) (l : List Hold) (x : Hold) (k vb : Nat) (hown : Own cHold 4 58 w base v l) (hk : k ≤ l.length) (hn : l.length ≤ 100000) (hbase : base ≤ w.heap.size) (hx : Blk w vb 58 (cHold x)) (hvb : v.ownBlock ≠ some vb) :
    Calls Try.prog 63 #[v, .int .i64 k, .slice (some ⟨vb, 0, none⟩) 1 1] w (InsPost base w (l.take k ++ x :: l.drop k)) := by
  rcases Nat.lt_or_eq_of_le hk with hlt | rfl
  · obtain ⟨g, cap, cur, rfl, hbg, hg, hlc, hcm, hcs, htake⟩ := hown.row (by omega)
    rcases Nat.lt_or_eq_of_le hlc with h1 | rfl
    · exact insShift w base l x k g vb cap cur hlt hn hbg h1 hcm (fun e => hvb (by rw [e]; rfl)) hg hcs htake hx
    · exact insGrow w base l x k g vb cur hlt hn hbase hg (by rw [← htake, List.take_of_length_le (by omega)]) hx
  · have h := insEnd w base v l x vb hown hn hbase hx
    rw [List.take_length, List.drop_length]
    exact h
end Wh
