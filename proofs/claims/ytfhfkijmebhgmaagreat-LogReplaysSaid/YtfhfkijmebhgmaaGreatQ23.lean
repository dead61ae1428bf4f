/- Texts of the claim, joined: HoldsD, HoldsE, HoldsF. -/
import Derived.Test.YtfhfkijmebhgmaaGreatQ10
import Derived.Test.YtfhfkijmebhgmaaGreatQ08
namespace Wh
open Go Go.RowKit Go.Shelf Go.Proofs
attribute [local go_sem] run_indexAt_letter

theorem pos_eq' {l : List Hold} {h : Hold} {k : Nat} (hk : k ≤ l.length) (h1 : ∀ i, i < k → ord (hold l i) h < 0) (h2 : ∀ i, k ≤ i → i < l.length → 0 ≤ ord (hold l i) h) : pos l h = k :=
  pos_eq hk h1 (fun hk' => h2 k (Nat.le_refl _) hk')

set_option maxHeartbeats 2000000 in
theorem slSearch (w : World) (v : Value) (l : List Hold) (x : Hold) (hv : Sl cHold w w.heap.size v l) (hok : holdsOk l = true) (hn : l.length ≤ 1000000) :
    Calls Tryz.prog 169 #[v, vHold x, .func (.func 167) #[] #[]] w fun e w' => e = .returned (.tuple #[.int .i64 (pos l x), .bool (found l x)]) ∧ Below w.heap.size w w' := by
  obtain ⟨A, c, rfl, _, hA⟩ := hv
  have hless := Lib.hid (fun (i j : Nat) (hij : i ≤ j) (hj : j < l.length) (h : ord (hold l j) x < 0) => ok_less hok hij hj h)
  have hok' := Lib.hid hok
  clear hok
  have hb0 : Below w.heap.size w (w.alloc (.cells #[.int .i64 (x).order, .int .i64 (x).line, .int .i64 (x).bin, .int .i64 (x).n] 46)) := (Below.refl _ _).alloc (Nat.le_refl _) _
  unfold vHold
  go_enter Tryz.func169, Tryz.ntmps169
  go_wp2_with fail
  obtain ⟨W0, hW0⟩ : ∃ W0, W0 = w.alloc (.cells #[.int .i64 (x).order, .int .i64 (x).line, .int .i64 (x).bin, .int .i64 (x).n] 46) := ⟨_, rfl⟩
  rw [← hW0] at hb0 ⊢
  have z0 : W0.cell? ⟨w.heap.size, 0, none⟩ = some (.int .i64 x.order) ∧ W0.cell? ⟨w.heap.size, 1, none⟩ = some (.int .i64 x.line) ∧ W0.cell? ⟨w.heap.size, 2, none⟩ = some (.int .i64 x.bin) ∧ W0.cell? ⟨w.heap.size, 3, none⟩ = some (.int .i64 x.n) := by rw [hW0]; simp
  have hsz : w.heap.size < W0.heap.size := by rw [hW0]; simp
  clear hW0
  obtain ⟨z0, z1, z2, z3⟩ := z0
  go_loopw [9, 10, 11] (fun i j _ wr => ∃ a b : Nat, a ≤ b ∧ b ≤ l.length ∧ i = .int .i64 a ∧ j = .int .i64 b ∧ (∀ m, m < a → ord (hold l m) x < 0) ∧ (∀ m, b ≤ m → m < l.length → 0 ≤ ord (hold l m) x) ∧ Below W0.heap.size W0 wr) (fun i j _ _ => (intOf j - intOf i).toNat)
  case atStart => exact ⟨0, l.length, Nat.zero_le _, Nat.le_refl _, rfl, rfl, fun m hm => by omega, fun m h1 h2 => by omega, Below.refl _ _⟩
  case round =>
    obtain ⟨a, b, hab, hbl, rfl, rfl, h1, h2, hbw⟩ := hrel
    have h1' := Lib.hid h1
    have h2' := Lib.hid h2
    clear h1 h2
    by_cases hlt : a < b
    · have hm : (a + b) / 2 < l.length := by omega
      have hma : a ≤ (a + b) / 2 := by omega
      have hmb : (a + b) / 2 < b := by omega
      have hB := hb0.trans (hbw.mono hb0.size)
      have hBz : w.heap.size < wr.heap.size := Nat.lt_of_lt_of_le hsz hbw.size
      obtain ⟨y0, y1, y2, y3⟩ : wr.cell? ⟨w.heap.size, 0, none⟩ = some (.int .i64 x.order) ∧ wr.cell? ⟨w.heap.size, 1, none⟩ = some (.int .i64 x.line) ∧ wr.cell? ⟨w.heap.size, 2, none⟩ = some (.int .i64 x.bin) ∧ wr.cell? ⟨w.heap.size, 3, none⟩ = some (.int .i64 x.n) :=
        ⟨(hbw.cell (p := ⟨_, _, none⟩) hsz).trans z0, (hbw.cell (p := ⟨_, _, none⟩) hsz).trans z1, (hbw.cell (p := ⟨_, _, none⟩) hsz).trans z2, (hbw.cell (p := ⟨_, _, none⟩) hsz).trans z3⟩
      obtain ⟨hok, hAb, b0, b1, b2, b3⟩ := (hA.up hB hB.size).hold hm
      have q0 := fun o d os => cells_wld (w := wr) (b := w.heap.size) hBz o d os
      have qA := fun o d os => cells_wld (w := wr) (b := ablk A) hAb o d os
      by_cases ho : ord (hold l ((a + b) / 2)) x < 0
      · go_wp2_with fail
        refine wp_region_wld (by kernel_rfl) (by kernel_rfl) ?_
        repeat (go_big_quiet_step ((go_at_call 167; refine calls_wld (hdOrder (hold l ((a + b) / 2)) x _))))
        refine wpQuiet_nil ?_
        intro W2 hw'
        have hb2 := below_of_cls hw'
        clear hw'
        go_wp2_with fail
        go_roundw
        case rel =>
          refine ⟨(a + b) / 2 + 1, b, by omega, hbl, by go_num, rfl, fun m hm => ?_, h2'.out, hbw.trans (hb2.mono hbw.size)⟩
          exact hless.out m _ (by omega) (by omega) ho
        case measure => simp [intOf]; omega
      · have ho' : 0 ≤ ord (hold l ((a + b) / 2)) x := by omega
        go_wp2_with fail
        refine wp_region_wld (by kernel_rfl) (by kernel_rfl) ?_
        repeat (go_big_quiet_step ((go_at_call 167; refine calls_wld (hdOrder (hold l ((a + b) / 2)) x _))))
        refine wpQuiet_nil ?_
        intro W2 hw'
        have hb2 := below_of_cls hw'
        clear hw'
        go_wp2_with fail
        go_roundw
        case rel =>
          refine ⟨a, (a + b) / 2, by omega, by omega, rfl, by go_num, h1'.out, fun m hm hml => ?_, hbw.trans (hb2.mono hbw.size)⟩
          exact Int.not_lt.1 fun hn => by have := hless.out _ m hm hml hn; omega
        case measure => simp [intOf]; omega
    · obtain rfl : a = b := by omega
      have hpos : pos l x = a := pos_eq' hbl h1'.out h2'.out
      have hpos' := Lib.hid hpos
      have hB := hb0.trans (hbw.mono hb0.size)
      by_cases hal : a < l.length
      · have hBz : w.heap.size < wr.heap.size := Nat.lt_of_lt_of_le hsz hbw.size
        obtain ⟨y0, y1, y2, y3⟩ : wr.cell? ⟨w.heap.size, 0, none⟩ = some (.int .i64 x.order) ∧ wr.cell? ⟨w.heap.size, 1, none⟩ = some (.int .i64 x.line) ∧ wr.cell? ⟨w.heap.size, 2, none⟩ = some (.int .i64 x.bin) ∧ wr.cell? ⟨w.heap.size, 3, none⟩ = some (.int .i64 x.n) :=
          ⟨(hbw.cell (p := ⟨_, _, none⟩) hsz).trans z0, (hbw.cell (p := ⟨_, _, none⟩) hsz).trans z1, (hbw.cell (p := ⟨_, _, none⟩) hsz).trans z2, (hbw.cell (p := ⟨_, _, none⟩) hsz).trans z3⟩
        obtain ⟨hok, hAb, b0, b1, b2, b3⟩ := (hA.up hB hB.size).hold hal
        have q0 := fun o d os => cells_wld (w := wr) (b := w.heap.size) hBz o d os
        have qA := fun o d os => cells_wld (w := wr) (b := ablk A) hAb o d os
        have hf := Lib.hid (show found l x = (ord (hold l a) x == 0) by
          unfold found
          rw [hpos, decide_eq_true hal, Bool.true_and]
          rw [Bool.eq_iff_iff]; simp)
        clear hpos
        go_wp2_with fail
        refine wp_region_wld (by kernel_rfl) (by kernel_rfl) ?_
        repeat (go_big_quiet_step ((go_at_call 167; refine calls_wld (hdOrder (hold l a) x _))))
        refine wpQuiet_nil ?_
        intro W2 hw'
        have hb2 := below_of_cls hw'
        clear hw'
        go_wp2_with fail
        go_ret2
        exact ⟨ret2 (by rw [hpos'.out]; rfl) (by rw [hf.out]; rfl), hB.trans (hb2.mono hB.size)⟩
      · have hf := Lib.hid (show found l x = false by
          unfold found
          rw [hpos, decide_eq_false hal, Bool.false_and])
        obtain rfl : a = l.length := by omega
        clear hpos hal
        go_wp2_with fail
        refine wp_region_wld (by kernel_rfl) (by kernel_rfl) ?_
        repeat (go_big_quiet_step ((go_at_call 167; refine calls_wld (hdOrder (hold l a) x _))))
        refine wpQuiet_nil ?_
        intro W2 hw'
        have hb2 := below_of_cls hw'
        clear hw'
        go_wp2_with fail
        go_ret2
        exact ⟨ret2 (by rw [hpos'.out]; rfl) (by rw [hf.out]; rfl), hB.trans (hb2.mono hB.size)⟩

set_option maxHeartbeats 400000 in
theorem hdFind (w : World) (v : Value) (l : List Hold) (x : Hold) (hv : Sl cHold w w.heap.size v l) (hok : holdsOk l = true) (hn : l.length ≤ 1000000) :
    Calls Tryz.prog 154 #[v, vHold x] w fun e w' => e = .returned (.tuple #[.int .i64 (pos l x), .bool (found l x)]) ∧ Below w.heap.size w w' := by
  have hV := hv
  obtain ⟨A, c, rfl, hl, hA⟩ := hv
  have hok' := Lib.hid hok
  clear hok
  have hb0 : Below w.heap.size w (w.alloc (.cells #[.int .i64 (x).order, .int .i64 (x).line, .int .i64 (x).bin, .int .i64 (x).n] 46)) := (Below.refl _ _).alloc (Nat.le_refl _) _
  unfold vHold
  go_enter Tryz.func154, Tryz.ntmps154
  go_wp2_with fail
  refine (slSearch _ _ l x (hV.grow hb0) hok'.out hn).mono ?_
  rintro e W1 ⟨rfl, hb1⟩
  go_wp2_with fail
  go_ret2
  exact ⟨ret2 rfl rfl, hb0.trans (hb1.mono hb0.size)⟩
end Wh
namespace Wh
open Go Go.RowKit Go.Shelf Go.Proofs
attribute [local go_sem] run_indexAt_letter

theorem ins_flat {α : Type} (enc : α → List Value) (l : List α) (k : Nat) (x : α) : (l.take k ++ x :: l.drop k).flatMap enc = (l.take k).flatMap enc ++ enc x ++ (l.drop k).flatMap enc := by
  simp
theorem ins_length {α : Type} (l : List α) (k : Nat) (x : α) (h : k ≤ l.length) : (l.take k ++ x :: l.drop k).length = l.length + 1 := by
  simp; omega
/-- What an insertion gives. -/
def InsPost (base : Nat) (w : World) (l : List Hold) (e : Ending) (w' : World) : Prop := ∃ v', e = .returned v' ∧ Own cHold 4 46 w' base v' l ∧ Below base w w'

set_option maxHeartbeats 2000000 in
/-- At the end. -/
theorem insEnd (w : World) (base : Nat) (v : Value) (l : List Hold) (x : Hold) (vb : Nat) (hown : Own cHold 4 46 w base v l) (hn : l.length ≤ 100000) (hbase : base ≤ w.heap.size) (hx : Blk w vb 46 (cHold x)) :
    Calls Tryz.prog 165 #[v, .int .i64 l.length, .slice (some ⟨vb, 0, none⟩) 1 1] w (InsPost base w (l ++ [x])) := by
  have hcx : ∀ j u, (cHold x)[j]? = some u → w.cell? ((⟨vb, 0, none⟩ : Addr).add j) = some u := fun j u hj => by rw [Addr.add_lit, Nat.zero_add]; exact hx.cell hj
  obtain ⟨A, c, rfl⟩ := hown.isSlice
  by_cases h0 : l.length = 0
  · obtain rfl : l = [] := List.eq_nil_of_length_eq_zero h0
    have hA : A = none ∨ ∃ g cap, A = some ⟨g, 0, none⟩ ∧ c = cap := by
      rcases hown.2 with ⟨h1, _⟩ | ⟨g, cap, cur, h1, _⟩
      · left; simp at h1; exact h1.1
      · right; simp at h1; exact ⟨g, cap, h1.1, h1.2⟩
    have hcap : c ≤ 9223372036854775807 := by
      rcases hown.2 with ⟨h1, _⟩ | ⟨g, cap, cur, h1, _, _, _, h5, _⟩
      · simp at h1; omega
      · simp at h1; unfold maxLen at h5; omega
    rcases hA with rfl | ⟨g, cap, rfl, rfl⟩
    all_goals
      go_enter Tryz.func165, Tryz.ntmps165
      go_wp2_with (at_builtin; refine Hid.out ?_)
      all_goals
        unfold Hid
        refine wpList_push _ rfl (.tmp 23) (.tmp 24) 28 46 rfl base _ 4 32 Tryz.underlying28 infoHold rfl (by decide) (by decide) _ [] x rfl hown ⟨vb, 0, none⟩ 1 rfl rfl hcx (oneHold x) (by simp) hbase ?_
        intro v1 w1 hown1 hg1 hat1 hbel1
        go_wp2_with fail
        go_ret
        exact ⟨_, rfl, hown1, hbel1⟩
  · obtain ⟨g, cap, cur, hv, hbg, hg, hlc, hcm, hcs, htake⟩ := hown.row (by omega)
    injection hv with h1 h2 h3
    subst h1 h3
    have hcm' : c ≤ 9223372036854775807 := by unfold maxLen at hcm; omega
    have hg' := Lib.hid hg
    clear hcm hcs htake hg
    have hce : c = l.length ∨ l.length < c := by omega
    rcases hce with rfl | hce
    all_goals
      go_enter Tryz.func165, Tryz.ntmps165
      go_wp2_with (at_builtin; refine Hid.out ?_)
      unfold Hid
      refine wpList_push _ rfl (.tmp 23) (.tmp 24) 28 46 rfl base _ 4 32 Tryz.underlying28 infoHold rfl (by decide) (by decide) _ l x rfl hown ⟨vb, 0, none⟩ 1 rfl rfl hcx (oneHold x) (by omega) hbase ?_
      intro v1 w1 hown1 hg1 hat1 hbel1
      go_wp2_with fail
      go_ret
      exact ⟨_, rfl, hown1, hbel1⟩

set_option maxHeartbeats 4000000 in
set_option maxRecDepth 100000 in
/-- Ahead of others, with no room: a new row. -/
theorem insGrow (w : World) (base : Nat) (l : List Hold) (x : Hold) (k g vb : Nat) (cur : List Value) (hk : k < l.length) (hn : l.length ≤ 100000) (hbase : base ≤ w.heap.size)
    (hg : Blk w g 46 cur) (htake : cur = l.flatMap cHold) (hx : Blk w vb 46 (cHold x)) :
    Calls Tryz.prog 165 #[.slice (some ⟨g, 0, none⟩) l.length l.length, .int .i64 k, .slice (some ⟨vb, 0, none⟩) 1 1] w (InsPost base w (l.take k ++ x :: l.drop k)) := by
  have hk4 : ∀ x, (cHold x).length = 4 := fun _ => rfl
  obtain ⟨i0, hi0, hz0, hsz0, hby0⟩ := infoHold
  have hcx : ∀ j u, (cHold x)[j]? = some u → w.cell? ((⟨vb, 0, none⟩ : Addr).add j) = some u := fun j u hj => by rw [Addr.add_lit, Nat.zero_add]; exact hx.cell hj
  obtain ⟨G, hG⟩ : ∃ G, G = grownCap w (l.length + 1) l.length 46 := ⟨_, rfl⟩
  have hGn : l.length + 1 ≤ G := by rw [hG]; exact grownCap_ge w _ _ _
  have hGm : G ≤ maxLen := by rw [hG]; exact grownCap_le_maxLen w _ _ _ (by unfold maxLen; omega)
  have hG63 : G ≤ 9223372036854775807 := by unfold maxLen at hGm; omega
  have hzl : ∀ n, (Builtin.zeroCells #[.int .i64 0, .int .i64 0, .int .i64 0, .int .i64 0] n).toList.length = n * 4 := fun n => by rw [Array.length_toList]; exact zeroCells_length _ n
  obtain ⟨R, hR⟩ : ∃ R : List Value, R = (l.take k).flatMap cHold ++ (Builtin.zeroCells #[.int .i64 0, .int .i64 0, .int .i64 0, .int .i64 0] (l.length + 1 - k)).toList ++ (Builtin.zeroCells #[.int .i64 0, .int .i64 0, .int .i64 0, .int .i64 0] (G - (l.length + 1))).toList := ⟨_, rfl⟩
  have hRl : R.length = G * 4 := by
    rw [hR, List.length_append, List.length_append, flat_length cHold 4 hk4, List.length_take, hzl, hzl]
    omega
  have hold : (Builtin.firstCells i0.size k (.slice (some ⟨g, 0, none⟩) k l.length)).run Tryz.prog w.drew = .ok ((l.take k).flatMap cHold).toArray w.drew := by
    rw [hsz0]
    exact run_firstCells_some w.drew 4 k ⟨g, 0, none⟩ k l.length ((l.take k).flatMap cHold) (by rw [flat_length cHold 4 hk4, List.length_take]; omega) (fun j v hj => by
      rw [Addr.add_lit, Nat.zero_add]
      refine hg.drew.cell ?_
      rw [← flat_take cHold 4 hk4, List.getElem?_take] at hj
      split at hj
      · rw [htake]; exact hj
      · cases hj)
  have hrz : ∀ ty, (Builtin.append_ #[28, 3] ty #[.slice (some ⟨g, 0, none⟩) k l.length, .int .i64 ((l.length : Int) + 1 - (k : Int))]).run Tryz.prog w =
      .ok (.slice (some ⟨w.heap.size, 0, none⟩) (l.length + 1) G) (w.drew.alloc (.cells R.toArray 46)) := fun ty => by
    have h := Lib.run_append_grow_zeros w 28 3 ty 46 i0 _ .i64 .i64 Tryz.underlying28 Tryz.underlying3 hi0 hz0 (some ⟨g, 0, none⟩) k l.length ((l.take k).flatMap cHold) hold (l.length + 1 - k) (by omega) (by omega) (by omega) (by omega) (by rw [hby0]; omega)
      (by rw [hby0, show k + (l.length + 1 - k) = l.length + 1 by omega]; exact growslice_fits (by omega) (by omega))
    rw [show k + (l.length + 1 - k) = l.length + 1 by omega, ← hG, show ((l.length + 1 - k : Nat) : Int) = (l.length : Int) + 1 - (k : Int) by omega] at h
    rw [h, hR]
    congr 3
    apply Array.ext'
    simp [Value.cells]
  obtain ⟨W1, hW1⟩ : ∃ W1, W1 = w.drew.alloc (.cells R.toArray 46) := ⟨_, rfl⟩
  rw [← hW1] at hrz
  have hN : Blk W1 w.heap.size 46 R := by rw [hW1]; exact Blk.new w.drew _ R.toArray
  have hgW : Blk W1 g 46 cur := by
    rw [hW1]
    exact hg.drew.alloc _
  have hxW : Blk W1 vb 46 (cHold x) := by
    rw [hW1]
    exact hx.drew.alloc _
  have hs4 : (Tryz.prog.info? 46).map (·.size) = some 4 := by rw [hi0]; simp [hsz0]
  have hR1 : (spl R (k * 4) (cHold x)).length = R.length := spl_length (by rw [hk4, hRl]; omega)
  have hcp1 : ∀ ty, (Builtin.copy_ #[28, 28] ty #[.slice (some ⟨w.heap.size, k * 4, none⟩) (l.length + 1 - k) (G - k), .slice (some ⟨vb, 0, none⟩) 1 1]).run Tryz.prog W1 = .ok (goInt 1) (W1.setRow w.heap.size (spl R (k * 4) (cHold x)).toArray) := fun ty =>
    run_copy_blk (P := Tryz.prog) W1 _ _ ty 46 4 w.heap.size (k * 4) _ _ ⟨vb, 0, none⟩ 1 1 R 46 (cHold x) Tryz.underlying28 hs4 hN 1 (by simp only [Nat.min_def]; split <;> omega) (hk4 x) (fun j u hj => by rw [Addr.add_lit, Nat.zero_add]; exact hxW.cell hj) (by rw [hk4, hRl]; omega) (oneHold x)
  obtain ⟨W2, hW2⟩ : ∃ W2, W2 = W1.setRow w.heap.size (spl R (k * 4) (cHold x)).toArray := ⟨_, rfl⟩
  rw [← hW2] at hcp1
  have hN2 : Blk W2 w.heap.size 46 (spl R (k * 4) (cHold x)) := by rw [hW2]; exact hN.row _
  have hgW2 : Blk W2 g 46 cur := by rw [hW2]; exact hgW.other (by have := hg.lt; omega) _
  have hds : (l.drop k).flatMap cHold = cur.drop (k * 4) := by rw [htake, flat_drop cHold 4 hk4]
  have hdl : ((l.drop k).flatMap cHold).length = (l.length - k) * 4 := by rw [flat_length cHold 4 hk4, List.length_drop]
  have hcp2 : ∀ (W : World), W.heap = W2.heap → ∀ ty, (Builtin.copy_ #[28, 28] ty #[.slice (some ⟨w.heap.size, (k + 1) * 4, none⟩) (l.length + 1 - (k + 1)) (G - (k + 1)), .slice (some ⟨g, k * 4, none⟩) (l.length - k) (l.length - k)]).run Tryz.prog W =
      .ok (goInt (l.length - k : Nat)) (W.setRow w.heap.size (spl (spl R (k * 4) (cHold x)) ((k + 1) * 4) ((l.drop k).flatMap cHold)).toArray) := fun W hW ty =>
    run_copy_blk (P := Tryz.prog) W _ _ ty 46 4 w.heap.size ((k + 1) * 4) _ _ ⟨g, k * 4, none⟩ _ _ (spl R (k * 4) (cHold x)) 46 ((l.drop k).flatMap cHold) Tryz.underlying28 hs4 (by unfold Blk; rw [hW]; exact hN2) (l.length - k) (by simp only [Nat.min_def]; split <;> omega) hdl
      (fun j u hj => by
        rw [Addr.add_lit]
        have hgW3 : Blk W g 46 cur := by unfold Blk; rw [hW]; exact hgW2
        refine hgW3.cell ?_
        rw [hds, List.getElem?_drop] at hj
        exact hj)
      (by rw [hdl, hR1, hRl]; omega) (fun u hu => by
        obtain ⟨y, _, hy⟩ := List.mem_flatMap.1 hu
        exact oneHold y u hy)
  have hfin : ∀ (W : World), W.heap = W2.heap → W.os = W2.os → W.tape = W2.tape → W.output = W2.output → InsPost base w (l.take k ++ x :: l.drop k) (.returned (.slice (some ⟨w.heap.size, 0, none⟩) (l.length + 1) G)) (W.setRow w.heap.size (spl (spl R (k * 4) (cHold x)) ((k + 1) * 4) ((l.drop k).flatMap cHold)).toArray) := by
    intro W hW e1 e2 e3
    have hNW : Blk W w.heap.size 46 (spl R (k * 4) (cHold x)) := by unfold Blk; rw [hW]; exact hN2
    refine ⟨_, rfl, ?_, ?_⟩
    · rw [show l.length + 1 = (l.take k ++ x :: l.drop k).length from (ins_length l k x (by omega)).symm]
      refine Own.of_row hk4 hbase (hNW.row _) (by rw [ins_length l k x (by omega)]; omega) hGm (by rw [spl_length (by rw [hdl, hR1, hRl]; omega), hR1, hRl]) ?_
      rw [ins_length l k x (by omega), ins_flat, show (l.length + 1) * 4 = (k + 1) * 4 + ((l.drop k).flatMap cHold).length by rw [hdl]; omega, spl_hi (by rw [hR1, hRl]; omega)]
      rw [show (k + 1) * 4 = k * 4 + (cHold x).length by rw [hk4]; omega, spl_hi (by rw [hRl]; omega), hR, List.append_assoc, List.append_assoc, List.take_append_of_le_length (by rw [flat_length cHold 4 hk4, List.length_take]; omega), List.take_of_length_le (by rw [flat_length cHold 4 hk4, List.length_take]; omega), List.append_assoc]
    · have b1 : Below base w W2 := by
        rw [hW2, hW1]
        exact below_row ((((Below.refl base w).drew).alloc hbase _)) hbase _
      have b2 : Below base w W := ⟨e1.trans b1.os, e2.trans b1.tape, e3.trans b1.output, by rw [hW]; exact b1.size, fun q hq => by rw [hW]; exact b1.block q hq⟩
      exact below_row b2 hbase _
  have hfin' := Lib.hid hfin
  have hcp1' : ∀ (W : World), W = W1 → ∀ ty, (Builtin.copy_ #[28, 28] ty #[.slice (some ⟨w.heap.size, k * 4, none⟩) (l.length + 1 - k) (G - k), .slice (some ⟨vb, 0, none⟩) 1 1]).run Tryz.prog W = .ok (goInt 1) W2 := fun W hW ty => by rw [hW]; exact hcp1 ty
  have hW1' : w.drew.alloc (.cells R.toArray 46) = W1 := hW1.symm
  have hw1 : IntKind.i64.wrap ((k : Int) + 1) = (k : Int) + 1 := by rw [IntKind.wrap_i64]; omega
  have hb1 : (0 : Int) ≤ (k : Int) + 1 := by omega
  have hb2 : (k : Int) + 1 ≤ (l.length : Int) + 1 := by omega
  have hb3 : (k : Int) ≤ (l.length : Int) := by omega
  have htn : ((k : Int) + 1).toNat = k + 1 := by omega
  have hGk : ¬ (G = k) := by omega
  have hGk1 : ¬ (G = k + 1) := by omega
  have hlk : ¬ (l.length = k) := by omega
  have hkl : ¬ ((k : Int) = (l.length : Int)) := by omega
  clear hfin hcp1 hW1 hW2 hN hgW hxW hN2 hgW2 hds hdl hR1 hRl hR hold hG hGm hi0 htake hcx hg hx hs4
  go_enter Tryz.func165, Tryz.ntmps165
  go_wp2_with (first
    | (at_builtin; refine Lib.wpList_append_run _ rfl _ _ _ _ rfl _ _ rfl rfl _ _ (hrz _) ?_)
    | (refine wpList_copy_at _ rfl _ _ 28 28 rfl _ _ rfl rfl (hcp1' _ rfl _) ?_))
  go_region_law (refine step_copy_at _ rfl (.tmp 50) (.tmp 53) 28 28 rfl (.slice (some ⟨w.heap.size, (k + 1) * 4, none⟩) (l.length + 1 - (k + 1)) (G - (k + 1))) (.slice (some ⟨g, k * 4, none⟩) (l.length - k) (l.length - k)) (by simp [Act.eval, Act.put]) (by simp [Act.eval, Act.put]) (hcp2 W2.drew rfl _) ?_)
  go_wp2_with fail
  go_ret
  exact hfin'.out W2.drew rfl rfl rfl rfl

theorem spl_drop {L : List Value} {o : Nat} {cs : List Value} (h : o ≤ L.length) : (spl L o cs).drop o = cs ++ L.drop (o + cs.length) := by
  unfold spl
  rw [List.append_assoc, List.drop_append_of_le_length (by rw [List.length_take]; omega), List.drop_of_length_le (by rw [List.length_take]; omega), List.nil_append]

set_option maxHeartbeats 4000000 in
set_option maxRecDepth 100000 in
/-- Ahead of others, with room: in place. -/
theorem insShift (w : World) (base : Nat) (l : List Hold) (x : Hold) (k g vb cap : Nat) (cur : List Value) (hk : k < l.length) (hn : l.length ≤ 100000) (hbg : base ≤ g) (hroom : l.length + 1 ≤ cap) (hcm : cap ≤ maxLen) (hvb : vb ≠ g)
    (hg : Blk w g 46 cur) (hcs : cur.length = cap * 4) (htake : cur.take (l.length * 4) = l.flatMap cHold) (hx : Blk w vb 46 (cHold x)) :
    Calls Tryz.prog 165 #[.slice (some ⟨g, 0, none⟩) l.length cap, .int .i64 k, .slice (some ⟨vb, 0, none⟩) 1 1] w (InsPost base w (l.take k ++ x :: l.drop k)) := by
  have hk4 : ∀ x, (cHold x).length = 4 := fun _ => rfl
  obtain ⟨i0, hi0, hz0, hsz0, hby0⟩ := infoHold
  have hs4 : (Tryz.prog.info? 46).map (·.size) = some 4 := by rw [hi0]; simp [hsz0]
  have hcap63 : cap ≤ 9223372036854775807 := by unfold maxLen at hcm; omega
  obtain ⟨D, hD⟩ : ∃ D, D = (l.drop k).flatMap cHold := ⟨_, rfl⟩
  have hDl : D.length = (l.length - k) * 4 := by rw [hD, flat_length cHold 4 hk4, List.length_drop]
  have hD1 : ∀ u ∈ D, u.oneCell' = true := fun u hu => by
    rw [hD] at hu
    obtain ⟨y, _, hy⟩ := List.mem_flatMap.1 hu
    exact oneHold y u hy
  have hov : ∀ lb cb, (callFunc 181 #[.slice (some ⟨vb, 0, none⟩) 1 1, .slice (some ⟨g, (k + 1) * 4, none⟩) lb cb]).run Tryz.prog w = .ok (.value (.bool false)) w := fun lb cb => by
    rw [run_callFunc_extern (fn := Tryz.f181) (by kernel_rfl) (by kernel_rfl) (by kernel_rfl) (by kernel_rfl) (e := Extern.SlicesOverlaps.overlaps #[28, 28] #[4]) (by kernel_rfl),
      Lib.run_overlaps_apart w 28 4 46 Tryz.underlying28 4 Tryz.sizeOf46 ⟨vb, 0, none⟩ ⟨g, (k + 1) * 4, none⟩ 1 1 lb cb hvb _ _ _ _ hx.shape hg.shape (by rw [hcs]; omega) (hx.frozen _) (hx.frozen _)]
    rfl
  have hsrc : ∀ j v, D[j]? = some v → w.drew.cell? ((⟨g, k * 4, none⟩ : Addr).add j) = some v := fun j v hj => by
    rw [Addr.add_lit]
    refine hg.drew.cell ?_
    rw [hD, ← flat_drop cHold 4 hk4, ← htake, List.getElem?_drop, List.getElem?_take] at hj
    split at hj
    · exact hj
    · cases hj
  have hcp1 : ∀ ty, (Builtin.copy_ #[28, 28] ty #[.slice (some ⟨g, (k + 1) * 4, none⟩) (l.length + 1 - (k + 1)) (cap - (k + 1)), .slice (some ⟨g, k * 4, none⟩) (l.length + 1 - k) (cap - k)]).run Tryz.prog w.drew =
      .ok (goInt (l.length - k : Nat)) (w.drew.setRow g (spl cur ((k + 1) * 4) D).toArray) := fun ty =>
    run_copy_blk (P := Tryz.prog) w.drew _ _ ty 46 4 g ((k + 1) * 4) _ _ ⟨g, k * 4, none⟩ _ _ cur 46 D Tryz.underlying28 hs4 hg.drew (l.length - k) (by simp only [Nat.min_def]; split <;> omega) hDl hsrc (by rw [hDl, hcs]; omega) hD1
  obtain ⟨W1, hW1⟩ : ∃ W1, W1 = w.drew.setRow g (spl cur ((k + 1) * 4) D).toArray := ⟨_, rfl⟩
  rw [← hW1] at hcp1
  have hM : (spl cur ((k + 1) * 4) D).length = cap * 4 := by rw [spl_length (by rw [hDl, hcs]; omega), hcs]
  have hg1 : Blk W1 g 46 (spl cur ((k + 1) * 4) D) := by rw [hW1]; exact hg.drew.row _
  have hx1 : Blk W1 vb 46 (cHold x) := by rw [hW1]; exact hx.drew.other hvb _
  have hcp2 : ∀ ty, (Builtin.copy_ #[28, 28] ty #[.slice (some ⟨g, k * 4, none⟩) (l.length + 1 - k) (cap - k), .slice (some ⟨vb, 0, none⟩) 1 1]).run Tryz.prog W1 = .ok (goInt 1) (W1.setRow g (spl (spl cur ((k + 1) * 4) D) (k * 4) (cHold x)).toArray) := fun ty =>
    run_copy_blk (P := Tryz.prog) W1 _ _ ty 46 4 g (k * 4) _ _ ⟨vb, 0, none⟩ 1 1 _ 46 (cHold x) Tryz.underlying28 hs4 hg1 1 (by simp only [Nat.min_def]; split <;> omega) (hk4 x) (fun j u hj => by rw [Addr.add_lit, Nat.zero_add]; exact hx1.cell hj) (by rw [hk4, hM]; omega) (oneHold x)
  have hfin : InsPost base w (l.take k ++ x :: l.drop k) (.returned (.slice (some ⟨g, 0, none⟩) (l.length + 1) cap)) (W1.setRow g (spl (spl cur ((k + 1) * 4) D) (k * 4) (cHold x)).toArray) := by
    refine ⟨_, rfl, ?_, ?_⟩
    · rw [show l.length + 1 = (l.take k ++ x :: l.drop k).length from (ins_length l k x (by omega)).symm]
      refine Own.of_row hk4 hbg (hg1.row _) (by rw [ins_length l k x (by omega)]; omega) hcm (by rw [spl_length (by rw [hk4, hM]; omega), hM]) ?_
      rw [ins_length l k x (by omega), ins_flat]
      have e1 : spl (spl cur ((k + 1) * 4) D) (k * 4) (cHold x) = (cur.take (k * 4) ++ cHold x) ++ (D ++ cur.drop ((k + 1) * 4 + D.length)) := by
        have a1 : spl (spl cur ((k + 1) * 4) D) (k * 4) (cHold x) = (spl cur ((k + 1) * 4) D).take (k * 4) ++ cHold x ++ (spl cur ((k + 1) * 4) D).drop (k * 4 + (cHold x).length) := rfl
        have a2 : (spl cur ((k + 1) * 4) D).take (k * 4) = cur.take (k * 4) := by
          have : (spl cur ((k + 1) * 4) D).take (k * 4) = ((spl cur ((k + 1) * 4) D).take ((k + 1) * 4)).take (k * 4) := by rw [List.take_take, Nat.min_eq_left (by omega)]
          rw [this, spl_lo (by rw [hcs]; omega), List.take_take, Nat.min_eq_left (by omega)]
        rw [a1, a2, hk4, show k * 4 + 4 = (k + 1) * 4 by omega, spl_drop (by rw [hcs]; omega)]
      have e2 : cur.take (k * 4) = (l.take k).flatMap cHold := by
        have : cur.take (k * 4) = (cur.take (l.length * 4)).take (k * 4) := by rw [List.take_take, Nat.min_eq_left (by omega)]
        rw [this, htake, flat_take cHold 4 hk4]
      rw [e1, e2, ← List.append_assoc, List.take_append_of_le_length (by simp only [List.length_append, hDl, flat_length cHold 4 hk4, List.length_take, hk4]; omega), List.take_of_length_le (by simp only [List.length_append, hDl, flat_length cHold 4 hk4, List.length_take, hk4]; omega), hD]
    · rw [hW1]
      exact below_row (below_row (Below.refl base w).drew hbg _) hbg _
  have hfin' := Lib.hid hfin
  have hw1 : IntKind.i64.wrap ((k : Int) + 1) = (k : Int) + 1 := by rw [IntKind.wrap_i64]; omega
  have hb1 : (0 : Int) ≤ (k : Int) + 1 := by omega
  have hb2 : (k : Int) + 1 ≤ (l.length : Int) + 1 := by omega
  have hb3 : (k : Int) ≤ (l.length : Int) := by omega
  have hb4 : (k : Int) ≤ (l.length : Int) + 1 := by omega
  have htn : ((k : Int) + 1).toNat = k + 1 := by omega
  have hGk : ¬ (cap = k) := by omega
  have hGk1 : ¬ (cap = k + 1) := by omega
  have hkl : ¬ ((k : Int) = (l.length : Int)) := by omega
  clear hfin hW1 hg1 hx1 hD hDl hD1 hsrc hM hi0 htake hcs hg hx hs4 hcm
  go_enter Tryz.func165, Tryz.ntmps165
  go_wp2_with (simp only [hov])
  go_region_law (refine step_copy_at _ rfl (.tmp 73) (.tmp 76) 28 28 rfl (.slice (some ⟨g, (k + 1) * 4, none⟩) (l.length + 1 - (k + 1)) (cap - (k + 1))) (.slice (some ⟨g, k * 4, none⟩) (l.length + 1 - k) (cap - k)) (by simp [Act.eval, Act.put]) (by simp [Act.eval, Act.put]) (hcp1 _) ?_)
  go_wp2_with (refine wpList_copy_at _ rfl _ _ 28 28 rfl _ _ rfl rfl (hcp2 _) ?_)
  go_ret
  exact hfin'.out

/-- slices.Insert at holds, one of them. -/
theorem insHold (w : World) (base : Nat) (v : Value) (l : List Hold) (x : Hold) (k vb : Nat) (hown : Own cHold 4 46 w base v l) (hk : k ≤ l.length) (hn : l.length ≤ 100000) (hbase : base ≤ w.heap.size) (hx : Blk w vb 46 (cHold x)) (hvb : v.ownBlock ≠ some vb) :
    Calls Tryz.prog 165 #[v, .int .i64 k, .slice (some ⟨vb, 0, none⟩) 1 1] w (InsPost base w (l.take k ++ x :: l.drop k)) := by
  rcases Nat.lt_or_eq_of_le hk with hlt | rfl
  · obtain ⟨g, cap, cur, rfl, hbg, hg, hlc, hcm, hcs, htake⟩ := hown.row (by omega)
    rcases Nat.lt_or_eq_of_le hlc with h1 | rfl
    · exact insShift w base l x k g vb cap cur hlt hn hbg h1 hcm (fun e => hvb (by rw [e]; rfl)) hg hcs htake hx
    · exact insGrow w base l x k g vb cur hlt hn hbase hg (by rw [← htake, List.take_of_length_le (by omega)]) hx
  · have h := insEnd w base v l x vb hown hn hbase hx
    rw [List.take_length, List.drop_length]
    exact h
end Wh
namespace Wh
open Go Go.RowKit Go.Shelf Go.Proofs
attribute [local go_sem] run_indexAt_letter

def DropPost (l : List Hold) (o ln b : Int) (w : World) (e : Ending) (w' : World) : Prop :=
  ∃ v, e = .returned (.tuple #[v, .int .i64 (drop l o ln b).2.1, .int .i64 (drop l o ln b).2.2]) ∧ Own cHold 4 46 w' w.heap.size v (drop l o ln b).1 ∧ Below w.heap.size w w'
def AddPost (l : List Hold) (h : Hold) (w : World) (e : Ending) (w' : World) : Prop :=
  ∃ v, e = .returned (.tuple #[v, .int .i64 (add l h).2]) ∧ Own cHold 4 46 w' w.heap.size v (add l h).1 ∧ Below w.heap.size w w'

theorem ok_length {l : List Hold} (h : holdsOk l = true) : l.length ≤ 72 := by
  have hr := (holdsOk_iff.1 h).2
  have hf := (holdsOk_iff.1 h).1
  have hp : ∀ x ∈ l, 0 ≤ place x ∧ place x < 72 := fun x hx => by
    have := (fine_iff.1 (hf x hx)).1
    unfold keyOk at this
    unfold place
    omega
  have hn : (l.map fun x => (place x).toNat).Nodup := by
    rw [List.Nodup, List.pairwise_map]
    refine List.Pairwise.imp_of_mem ?_ hr
    intro a b ha hb hab
    have h1 := hp a ha
    have h2 := hp b hb
    omega
  have hs : (l.map fun x => (place x).toNat) ⊆ List.range 72 := fun n hn' => by
    obtain ⟨x, hx, rfl⟩ := List.mem_map.1 hn'
    have := hp x hx
    exact List.mem_range.2 (by omega)
  have := hn.length_le_of_subset hs
  simpa using this
theorem drop_bad {l : List Hold} {o ln b : Int} (h : holdsOk l = false) : drop l o ln b = ([], 0, 1) := by unfold drop; rw [h]; rfl
theorem drop_none {l : List Hold} {o ln b : Int} (h : holdsOk l = true) (hf : found l ⟨o, ln, b, 0⟩ = false) : drop l o ln b = ([], 0, 4) := by
  unfold drop
  rw [h, if_neg (by simp), if_pos (notFound_kept h hf)]
theorem drop_yes {l : List Hold} {o ln b : Int} (h : holdsOk l = true) (hf : found l ⟨o, ln, b, 0⟩ = true) : drop l o ln b = (l.eraseIdx (pos l ⟨o, ln, b, 0⟩), (hold l (pos l ⟨o, ln, b, 0⟩)).n, 0) := by
  have hk := found_kept h hf
  have hn := ok_n h (found_iff.1 hf).1
  simp only at hk
  unfold drop
  rw [h, if_neg (by simp), hk, if_neg (by omega), with_less h (found_key h hf) rfl hf]

set_option maxHeartbeats 2000000 in
theorem hdDrop (w : World) (v : Value) (l : List Hold) (o ln b : Int) (hv : Sl cHold w w.heap.size v l) :
    Calls Tryz.prog 101 #[v, .int .i64 o, .int .i64 ln, .int .i64 b] w (DropPost l o ln b w) := by
  have hV := hv
  obtain ⟨A, c, rfl, hl, hA⟩ := hv
  go_enter Tryz.func101, Tryz.ntmps101
  go_wp2_with fail
  refine (hdCheck _ _ _ hV).mono ?_
  rintro e W1 ⟨rfl, hb1⟩
  cases hok : holdsOk l
  · have hfin := Lib.hid (drop_bad (o := o) (ln := ln) (b := b) hok)
    have hc : checkHolds l = 1 := by unfold checkHolds; rw [hok]; rfl
    rw [hc]
    clear hc hok
    go_wp2_with fail
    go_ret3
    exact ⟨_, by rw [hfin.out]; rfl, by rw [hfin.out]; exact Own.nil, hb1⟩
  · have hc : checkHolds l = 0 := check_ok.2 hok
    have hlen := ok_length hok
    rw [hc]
    clear hc
    have hok' := Lib.hid hok
    clear hok
    go_wp2_with fail
    refine (hdFind _ _ l ⟨o, ln, b, 0⟩ (hV.grow hb1) hok'.out (by omega)).mono ?_
    rintro e W2 ⟨rfl, hb2⟩
    have hb02 := hb1.trans (hb2.mono hb1.size)
    cases hf : found l ⟨o, ln, b, 0⟩
    · have hfin := Lib.hid (drop_none hok'.out hf)
      clear hf
      go_wp2_with fail
      go_ret3
      exact ⟨_, by rw [hfin.out]; rfl, by rw [hfin.out]; exact Own.nil, hb02⟩
    · have hfin := Lib.hid (drop_yes hok'.out hf)
      have hlt := (found_iff.1 hf).1
      clear hf
      generalize pos l ⟨o, ln, b, 0⟩ = k at hlt hfin ⊢
      obtain ⟨hAok, hAb, b0, b1, b2, b3⟩ := (hA.up hb02 hb02.size).hold hlt
      have hw1 : IntKind.i64.wrap ((k : Int) + 1) = (k : Int) + 1 := by rw [IntKind.wrap_i64]; omega
      have hki : (k : Int) < (l.length : Int) := by omega
      have hVd : Sl cHold W2.drew W2.drew.heap.size (.slice A l.length c) l := (hV.grow hb02).drew
      have hd2 : Below W2.heap.size W2 W2.drew := (Below.refl _ _).drew
      clear b0 b1 b2 hok' hb1 hb2 hA
      go_wp2_with fail
      go_region_held3 (fun w' => w'.cell? ⟨ablk A, aoff A + k * 4 + 3, none⟩ = some (.int .i64 (hold l k).n)) (first | exact z1 | go_keep)
        (first
        | (go_at_call 111; refine (cloneHold _ _ l hVd (by omega)).mono ?_; rintro e W9 ⟨u9, rfl, hu9, hb9⟩; have hd9 := hd2.trans (hb9.mono hd2.size); have z1 := (hd9.cell (p := ⟨_, _, none⟩) hAb).trans b3)
        | (go_at_call 155; refine (delHold _ _ u9 l k hu9 hlt (by omega)).mono ?_; rintro e W10 ⟨u10, rfl, ho10, hg10, hat10⟩; have hd10 := hd9.grown hg10 hd9.size (fun q hq => (hu9.size q hq).1); have z1 := (hd10.cell (p := ⟨_, _, none⟩) hAb).trans b3))
      go_wp2_with fail
      go_ret3
      exact ⟨_, by rw [hfin.out]; rfl, by rw [hfin.out]; exact ho10.from_ hb02.size, hb02.trans (hd10.mono hb02.size)⟩

theorem add_bad {l : List Hold} {h : Hold} (hb : holdsOk l = false ∨ holdFine h = false) : add l h = ([], 1) := by
  unfold add
  rcases hb with hb | hb
  · rw [hb]; rfl
  · cases holdsOk l
    · rfl
    · rw [hb]; rfl
theorem add_new {l : List Hold} {h : Hold} (h1 : holdsOk l = true) (h2 : holdFine h = true) (hf : found l h = false) : add l h = (l.take (pos l h) ++ h :: l.drop (pos l h), 0) := by
  have hk := notFound_kept h1 hf
  obtain ⟨k1, k2, k3⟩ := fine_iff.1 h2
  unfold add
  rw [h1, h2, if_neg (by simp), if_neg (by simp), hk, if_neg (by omega)]
  have e : ({ h with n := 0 + h.n } : Hold) = h := by cases h; simp
  rw [e, with_new h1 k1 (by omega) hf]
theorem add_full {l : List Hold} {h : Hold} (h1 : holdsOk l = true) (h2 : holdFine h = true) (hf : found l h = true) (hn : 200 < (hold l (pos l h)).n + h.n) : add l h = ([], 3) := by
  have hk := found_kept h1 hf
  unfold add
  rw [h1, h2, if_neg (by simp), if_neg (by simp), hk, if_pos hn]
theorem add_more {l : List Hold} {h : Hold} (h1 : holdsOk l = true) (h2 : holdFine h = true) (hf : found l h = true) (hn : (hold l (pos l h)).n + h.n ≤ 200) :
    add l h = (l.set (pos l h) { hold l (pos l h) with n := (hold l (pos l h)).n + h.n }, 0) := by
  have hk := found_kept h1 hf
  obtain ⟨f1, f2⟩ := found_iff.1 hf
  obtain ⟨e1, e2, e3⟩ := ord_zero.1 f2
  have hn1 := ok_n h1 f1
  have hn2 := (fine_iff.1 h2).2
  unfold add
  rw [h1, h2, if_neg (by simp), if_neg (by simp), hk, if_neg (by omega)]
  rw [with_more h1 (h := { h with n := (hold l (pos l h)).n + h.n }) (fine_iff.1 h2).1 (by simp only; omega) (by rw [found_n]; exact hf), pos_n]
  simp only [e1, e2, e3]

set_option maxHeartbeats 4000000 in
theorem hdAdd (w : World) (v : Value) (l : List Hold) (h : Hold) (hv : Sl cHold w w.heap.size v l) :
    Calls Tryz.prog 124 #[v, vHold h] w (AddPost l h w) := by
  have hV := hv
  obtain ⟨A, c, rfl, hl, hA⟩ := hv
  have hb0 : Below w.heap.size w (w.alloc (.cells #[.int .i64 (h).order, .int .i64 (h).line, .int .i64 (h).bin, .int .i64 (h).n] 46)) := (Below.refl _ _).alloc (Nat.le_refl _) _
  unfold vHold
  go_enter Tryz.func124, Tryz.ntmps124
  go_wp2_with fail
  refine (hdCheck _ _ _ (hV.grow hb0)).mono ?_
  rintro e W1 ⟨rfl, hb1⟩
  have hb01 := hb0.trans (hb1.mono hb0.size)
  have hsz := hb1.size
  obtain ⟨hc1, hf1⟩ := bcell hb1
  cases hok : holdsOk l
  · have hfin := Lib.hid (add_bad (h := h) (.inl hok))
    have hc : checkHolds l = 1 := by unfold checkHolds; rw [hok]; rfl
    rw [hc]
    clear hc hok
    go_wp2_with fail
    go_ret2
    exact ⟨_, by rw [hfin.out]; rfl, by rw [hfin.out]; exact Own.nil, hb01⟩
  · have hc : checkHolds l = 0 := check_ok.2 hok
    have hlen := ok_length hok
    rw [hc]
    clear hc
    have hok' := Lib.hid hok
    clear hok
    go_wp2_with fail
    refine (hdFine h _).mono ?_
    rintro e W2 ⟨rfl, hb2⟩
    have hb12 := hb1.trans (hb2.mono hb1.size)
    have hb02 := hb0.trans (hb12.mono hb0.size)
    obtain ⟨hc2, hf2⟩ := bcell hb12
    clear hc1 hf1
    cases hfi : holdFine h
    · have hfin := Lib.hid (add_bad (l := l) (.inr hfi))
      go_wp2_with fail
      go_ret2
      exact ⟨_, by rw [hfin.out]; rfl, by rw [hfin.out]; exact Own.nil, hb02⟩
    · have hfi' := Lib.hid hfi
      have hlt2 : w.heap.size < W2.heap.size := by have := hb12.size; simp at this; omega
      go_wp2_with fail
      clear hfi
      refine (hdFind _ _ l h (hV.grow hb02) hok'.out (by omega)).mono ?_
      rintro e W3 ⟨rfl, hb3⟩
      have hb13 := hb12.trans (hb3.mono hb12.size)
      have hb03 := hb0.trans (hb13.mono hb0.size)
      obtain ⟨hc3, hf3⟩ := bcell hb13
      have hlt3 : w.heap.size < W3.heap.size := by have := hb3.size; omega
      obtain ⟨y0, y1, y2, y3⟩ : W3.cell? ⟨w.heap.size, 0, none⟩ = some (.int .i64 h.order) ∧ W3.cell? ⟨w.heap.size, 1, none⟩ = some (.int .i64 h.line) ∧ W3.cell? ⟨w.heap.size, 2, none⟩ = some (.int .i64 h.bin) ∧ W3.cell? ⟨w.heap.size, 3, none⟩ = some (.int .i64 h.n) :=
        ⟨(hc3 _ _ (by simp)).trans (by simp), (hc3 _ _ (by simp)).trans (by simp), (hc3 _ _ (by simp)).trans (by simp), (hc3 _ _ (by simp)).trans (by simp)⟩
      clear hc2 hf2 hc3 hf3 hb1 hb2 hb12 hsz
      have hposl := (pos_spec l h).1
      cases hf : found l h
      · have hfin := Lib.hid (add_new hok'.out hfi'.out hf)
        clear hf
        generalize pos l h = k at hfin hposl ⊢
        have hVd : Sl cHold W3.drew W3.drew.heap.size (.slice A l.length c) l := (hV.grow hb03).drew
        have hd3 : Below W3.heap.size W3 W3.drew := (Below.refl _ _).drew
        have he3 : Below W3.heap.size W3 (W3.drew.alloc (.cells #[.int .i64 (h).order, .int .i64 (h).line, .int .i64 (h).bin, .int .i64 (h).n] 46)) := hd3.alloc (Nat.le_refl _) _
        have hVe := (hV.grow hb03).grow he3
        have hEb : Blk (W3.drew.alloc (.cells #[.int .i64 (h).order, .int .i64 (h).line, .int .i64 (h).bin, .int .i64 (h).n] 46)) W3.heap.size 46 (cHold h) := Blk.new W3.drew 46 #[.int .i64 (h).order, .int .i64 (h).line, .int .i64 (h).bin, .int .i64 (h).n]
        go_wp2_with fail
        go_region_held3 (fun w' => w'.cell? ⟨w.heap.size, 0, none⟩ = some (.int .i64 h.order) ∧ w'.cell? ⟨w.heap.size, 1, none⟩ = some (.int .i64 h.line) ∧ w'.cell? ⟨w.heap.size, 2, none⟩ = some (.int .i64 h.bin) ∧ w'.cell? ⟨w.heap.size, 3, none⟩ = some (.int .i64 h.n)) (first | exact ⟨z1, z2, z3, z4⟩ | go_keep)
          (first
          | (go_at_call 111; refine (cloneHold _ _ l hVd (by omega)).mono ?_; rintro e W9 ⟨u9, rfl, hu9, hb9⟩; have hd9 := hd3.trans (hb9.mono hd3.size); have z1 := (hd9.cell (p := ⟨w.heap.size, 0, none⟩) hlt3).trans y0; have z2 := (hd9.cell (p := ⟨w.heap.size, 1, none⟩) hlt3).trans y1; have z3 := (hd9.cell (p := ⟨w.heap.size, 2, none⟩) hlt3).trans y2; have z4 := (hd9.cell (p := ⟨w.heap.size, 3, none⟩) hlt3).trans y3)
          | (go_at_call 111; refine (cloneHold _ _ l hVe (by omega)).mono ?_; rintro e W19 ⟨u19, rfl, hu19, hb19⟩; have hd19 := he3.trans (hb19.mono he3.size); have i13 := hEb.below hb19 (by simp); have z1 := (hd19.cell (p := ⟨w.heap.size, 0, none⟩) hlt3).trans y0; have z2 := (hd19.cell (p := ⟨w.heap.size, 1, none⟩) hlt3).trans y1; have z3 := (hd19.cell (p := ⟨w.heap.size, 2, none⟩) hlt3).trans y2; have z4 := (hd19.cell (p := ⟨w.heap.size, 3, none⟩) hlt3).trans y3)
          | (go_at_call 165; have i1 := hu9.alloc (.cells #[.int .i64 (h).order, .int .i64 (h).line, .int .i64 (h).bin, .int .i64 (h).n] 46); have i2 : W3.drew.heap.size ≤ (W9.alloc (.cells #[.int .i64 (h).order, .int .i64 (h).line, .int .i64 (h).bin, .int .i64 (h).n] 46)).heap.size := (by have := hd9.size; simp; omega); have i3 : Blk (W9.alloc (.cells #[.int .i64 (h).order, .int .i64 (h).line, .int .i64 (h).bin, .int .i64 (h).n] 46)) W9.heap.size 46 (cHold h) := Blk.new W9 46 #[.int .i64 (h).order, .int .i64 (h).line, .int .i64 (h).bin, .int .i64 (h).n]; have i4 : u9.ownBlock ≠ some W9.heap.size := (fun hq => (Nat.lt_irrefl _ (hu9.size _ hq).2)); refine (insHold _ _ u9 l h k W9.heap.size i1 hposl (by omega) i2 i3 i4).mono ?_; rintro e W10 ⟨u10, rfl, ho10, hb10⟩; have hd10 := (hd9.alloc hd9.size (.cells #[.int .i64 (h).order, .int .i64 (h).line, .int .i64 (h).bin, .int .i64 (h).n] 46)).trans hb10; have z1 := (hd10.cell (p := ⟨w.heap.size, 0, none⟩) hlt3).trans y0; have z2 := (hd10.cell (p := ⟨w.heap.size, 1, none⟩) hlt3).trans y1; have z3 := (hd10.cell (p := ⟨w.heap.size, 2, none⟩) hlt3).trans y2; have z4 := (hd10.cell (p := ⟨w.heap.size, 3, none⟩) hlt3).trans y3)
          | (go_at_call 165; have i14 : u19.ownBlock ≠ some W3.heap.size := (fun hq => (by have := (hu19.size _ hq).1; simp at this; omega)); refine (insHold _ _ u19 l h k W3.heap.size hu19 hposl (by omega) hb19.size i13 i14).mono ?_; rintro e W10 ⟨u10, rfl, ho10, hb10⟩; have hd10 := hd19.trans (hb10.mono he3.size); have z1 := (hd10.cell (p := ⟨w.heap.size, 0, none⟩) hlt3).trans y0; have z2 := (hd10.cell (p := ⟨w.heap.size, 1, none⟩) hlt3).trans y1; have z3 := (hd10.cell (p := ⟨w.heap.size, 2, none⟩) hlt3).trans y2; have z4 := (hd10.cell (p := ⟨w.heap.size, 3, none⟩) hlt3).trans y3))
        · go_wp2_with fail
          go_ret2
          exact ⟨_, by rw [hfin.out]; rfl, by rw [hfin.out]; exact ho10.from_ hb03.size, hb03.trans (hd10.mono hb03.size)⟩
        · go_wp2_with fail
          go_ret2
          exact ⟨_, by rw [hfin.out]; rfl, by rw [hfin.out]; exact ho10.from_ (Nat.le_trans hb03.size he3.size), hb03.trans (hd10.mono hb03.size)⟩
      · have hlt := (found_iff.1 hf).1
        obtain ⟨hAok, hAb, b0, b1, b2, b3⟩ := (hA.up hb03 hb03.size).hold hlt
        have hn1 := ok_n hok'.out hlt
        have hn2 := (fine_iff.1 hfi'.out).2
        have hw1 : IntKind.i64.wrap ((hold l (pos l h)).n + h.n) = (hold l (pos l h)).n + h.n := by rw [IntKind.wrap_i64]; omega
        by_cases hbig : 200 < (hold l (pos l h)).n + h.n
        · have hfin := Lib.hid (add_full hok'.out hfi'.out hf hbig)
          clear hf
          generalize pos l h = k at hlt hfin hw1 hbig hn1 b0 b1 b2 b3 ⊢
          have hki : (k : Int) < (l.length : Int) := by omega
          clear hn1 hn2
          go_wp2_with fail
          go_quiet (fail)
          clear hw1
          go_wp2_with fail
          go_ret2
          exact ⟨_, by rw [hfin.out]; rfl, by rw [hfin.out]; exact Own.nil, below_drewN hb03 _⟩
        · have hle : (hold l (pos l h)).n + h.n ≤ 200 := by omega
          have hfin := Lib.hid (add_more hok'.out hfi'.out hf hle)
          clear hf hbig
          generalize pos l h = k at hlt hfin hw1 hle hn1 b0 b1 b2 b3 ⊢
          have hki : (k : Int) < (l.length : Int) := by omega
          go_wp2_with fail
          go_quiet (fail)
          have hbq : Below W3.heap.size W3 (W3.drewN nq) := below_drewN (Below.refl _ _) nq
          go_wp2_with fail
          refine (cloneHold _ _ l ((hV.grow hb03).grow hbq) (by omega)).mono ?_
          rintro e W9 ⟨u9, rfl, hu9, hb9⟩
          obtain ⟨g, c9, rfl, hgb, hgl⟩ := hu9.some_ (by omega)
          have hd9 := hbq.trans (hb9.mono hbq.size)
          have x3 := (hd9.cell (p := ⟨w.heap.size, 3, none⟩) hlt3).trans y3
          have hc9 : W9.cell? ⟨g, k * 4 + 3, none⟩ = some (.int .i64 (hold l k).n) := by
            rw [World.ownsRow.cellAt hu9 (k * 4 + 3) (by omega), flat_get cHold 4 (fun _ => rfl) l k 3 (hold l k) (by rw [hold_get hlt]; simp) (by omega)]
            rfl
          have hf9 : W9.frozen? ⟨g, k * 4 + 3, none⟩ = false := World.ownsRow.frozenAt hu9 _
          obtain ⟨ho9, hg9⟩ := Own.store (y := { hold l k with n := (hold l k).n + h.n }) (u := .int .i64 ((hold l k).n + h.n)) hu9 (fun _ => rfl) hlt (show 3 < 4 by omega) (by rw [← hold_get hlt]; rfl)
          have hgne : g ≠ w.heap.size := by have := hlt3; have := hgb; simp at this; omega
          have ho9' := Lib.hid ho9
          have hg9' := Lib.hid hg9
          clear ho9 hg9
          go_wp2_with fail
          go_region
          go_wp2_with fail
          go_ret2
          exact ⟨_, by rw [hfin.out]; rfl, by rw [hfin.out]; exact (ho9'.out.from_ (Nat.le_trans hb03.size hbq.size)).drew, hb03.trans ((hd9.grown hg9'.out hd9.size (fun q hq => by cases hq; exact hgb)).drew.mono hb03.size)⟩
end Wh
