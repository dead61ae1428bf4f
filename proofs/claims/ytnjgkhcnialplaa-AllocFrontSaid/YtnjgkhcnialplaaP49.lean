/- Texts of the claim, joined: AllocL, AllocM, AllocN. -/
import Derived.Test.YtnjgkhcnialplaaP48
import Derived.Test.YtnjgkhcnialplaaP45
import Derived.Test.YtnjgkhcnialplaaP37
import Derived.Test.YtnjgkhcnialplaaP23
namespace Wh
open Go Go.RowKit Go.Shelf Go.Proofs
attribute [local go_sem] run_indexAt_letter evL_tmp evL_const evL_func

theorem take_none {p : Plan} {s : State} {o k n but : Int} (h : (take p s o k n but).2.2 ≠ 0) : take p s o k n but = (dState, 0, (take p s o k n but).2.2) := by
  unfold take at h ⊢
  by_cases h1 : checkState p s ≠ 0
  · rw [if_pos h1]
  rw [if_neg h1] at h ⊢
  split
  · rfl
  rename_i h2
  rw [if_neg h2] at h
  split
  · rfl
  rename_i h3
  rw [if_neg h3] at h
  split
  · rfl
  rename_i h4
  rw [if_neg h4] at h
  split
  · rfl
  rename_i h5
  rw [if_neg h5] at h
  exact absurd rfl h
theorem take_right {p : Plan} {s : State} {o k n but : Int} (h : (take p s o k n but).2.2 = 0) :
    checkState p s = 0 ∧ ∃ i j : Nat, o = i ∧ k = j ∧ May s i j n ∧ n ≤ 200 ∧ (-1 ≤ but ∧ but < p.bins.length) ∧ take p s o k n but = ((takeS p s i j n but).1, (takeS p s i j n but).2, 0) := by
  have h1 : checkState p s = 0 := by
    refine Classical.byContradiction fun hc => ?_
    rw [take_bad hc] at h
    exact hc h
  by_cases h2 : o < 0 ∨ (s.orders.length : Int) ≤ o ∨ k < 0 ∨ ((s.order o.toNat).lines.length : Int) ≤ k ∨ n < 0 ∨ 200 < n ∨ but < -1 ∨ (p.bins.length : Int) ≤ but
  · rw [take_range h1 h2] at h
    exact absurd h (by decide)
  · obtain ⟨i, rfl⟩ : ∃ i : Nat, o = i := ⟨o.toNat, by omega⟩
    obtain ⟨j, rfl⟩ : ∃ j : Nat, k = j := ⟨k.toNat, by omega⟩
    simp only [Int.toNat_natCast] at h2
    have e := take_in (p := p) (s := s) (o := i) (k := j) (n := n) (but := but) h1 (by omega) (by omega) (by omega) (by omega)
    refine ⟨h1, i, j, rfl, rfl, ?_⟩
    rw [e] at h ⊢
    split at h
    · exact absurd h (by decide)
    · rename_i hk
      split at h
      · exact absurd h (by decide)
      · rename_i hb
        refine ⟨⟨by omega, by omega, Classical.not_not.1 hk, by omega, by omega⟩, by omega, by omega, ?_⟩
        rw [if_neg hk, if_neg hb]
theorem take_check {p : Plan} {s : State} {o k n but : Int} (h : (take p s o k n but).2.2 = 0) : checkState p (take p s o k n but).1 = 0 := by
  obtain ⟨h1, i, j, rfl, rfl, hm, _, _, e⟩ := take_right h
  rw [e]
  exact (takeS_held (but := but) (right_of_check h1) hm).1.check h1
theorem take_small (p : Plan) (s : State) (o k n but : Int) : small (take p s o k n but).1 = true := by
  by_cases h : (take p s o k n but).2.2 = 0
  · exact check_small (take_check h)
  · rw [take_none h]
    show small dState = true
    decide

set_option maxHeartbeats 4000000 in
theorem lBusyAt (w : World) : Calls Try.prog 51 #[] w fun e w' => ∃ V, e = .returned V.val ∧ V.holds = .slice (some ⟨w.heap.size + 8, 0, none⟩) 3 3 ∧ OwnSt w' w.heap.size V busyS ∧ Below w.heap.size w w' := by
  go_enter Try.func51, Try.ntmps51
  go_wp2_with fail
  have h1 := busyOwn w
  have h2 := lay_below w (busyO w.heap.size)
  rw [lay_foldl] at h1 h2
  refine bodyPost_ret (v := (busyV w.heap.size).val) ?_ rfl ⟨busyV w.heap.size, rfl, rfl, h1, h2⟩
  simp [results, Try.results51, go_sem, SV.val, busyV]
theorem At.tail {w : World} {B g o : Nat} {xs ys : List Value} (h : At w B (some ⟨g, o, none⟩) (xs ++ ys)) : At w B (some ⟨g, o + xs.length, none⟩) ys := by
  intro hn
  obtain ⟨h1, h2, h3⟩ := h (by simp [hn])
  refine ⟨⟨g, _, rfl⟩, h2, fun j v hj => ?_⟩
  have := h3 (xs.length + j) v (by rw [List.getElem?_append_right (by omega), Nat.add_sub_cancel_left]; exact hj)
  rw [← Nat.add_assoc] at this
  exact this
/-- Another slice of holds reads as others. -/
theorem OwnSt.viewHolds {w : World} {base : Nat} {V : SV} {s : State} (h : OwnSt w base V s) (hs : small s = true) {u : Value} {l : List Hold} (hu : Sl cHold w w.heap.size u l) :
    StateV w w.heap.size (.agg #[V.on, V.orders, u, V.moves, V.inn, V.out, V.fixed]) { s with holds := l } := by
  obtain ⟨v0, v1, v2, v3, v4, v5, v6, e, h0, h1, h2, h3, h4, h5, h6⟩ := h.view0 hs
  unfold SV.val at e
  injection e with e
  simp only [Array.mk.injEq, List.cons.injEq, and_true] at e
  obtain ⟨rfl, rfl, _, rfl, rfl, rfl, rfl⟩ := e
  exact ⟨_, _, _, _, _, _, _, rfl, h0, h1, hu, h3, h4, h5, h6⟩
theorem OwnSt.tailHolds {w : World} {base : Nat} {V : SV} {s : State} (h : OwnSt w base V s) {g c c' : Nat} {x : Hold} {l : List Hold} (hl : s.holds = x :: l) (hm : l.length ≤ 1000) (hv : V.holds = .slice (some ⟨g, 0, none⟩) (l.length + 1) c) : Sl cHold w w.heap.size (.slice (some ⟨g, 4, none⟩) l.length c') l := by
  have h1 := h.holds.sl (by rw [hl]; simp; omega)
  rw [hv, hl] at h1
  have h2 := h1.at_
  rw [List.flatMap_cons] at h2
  exact ⟨_, c', rfl, by omega, h2.tail⟩
/-- A slice stored into a box's field: the world behind it at hand. -/
theorem wpList_store_holds {ops : Array Oper} {rest : List Oper} {o : Oper} {a : Act} {w : World} {Q : Exit → Act → World → Prop} (hgd : o.guard = none) (x y : Operand) (ho : o.op = .store 28 x y) (hn : o.dst = none) (b off : Nat) (u : Value) (A : Option Addr) (n c : Nat)
    (hx : a.eval x = .pointer (some ⟨b, off, none⟩)) (hy : a.eval y = .slice A n c) (hc : w.cell? ⟨b, off, none⟩ = some u) (hf : w.frozen? ⟨b, off, none⟩ = false)
    (h : ∀ w', w.setCell ⟨b, off, none⟩ (.slice A n c) = w' → wpList Try.prog ops Q rest a w') : wpList Try.prog ops Q (o :: rest) a w :=
  wpList_plain hgd fun K hK => by
    unfold Oper.wp
    simp only [execOp, ho, hx, hy]
    go_simp
    exact hK _ _ (h _ rfl)

def allocX : State := { busyS.setLine 0 0 { busyS.line 0 0 with back := 2 } with holds := [⟨0, 0, 1, 3⟩, ⟨0, 1, 2, 6⟩] }
def begT (o n but : Int) : State × Int × Int := take yardP allocX o 0 n but
theorem begTake {o n but : Int} {r : State × Int × Int} (h : begT o n but = r) (w : World) (v vs : Value) (hp : PlanV w w.heap.size v yardP) (hv : StateV w w.heap.size vs allocX) :
    Calls Try.prog 39 #[v, vs, .int .i64 o, .int .i64 0, .int .i64 n, .int .i64 but] w (TkPost r w) := by
  rw [← h]
  exact alTake w v vs yardP allocX o 0 n but hp hv
theorem beg1 : begT 0 2 (-1) = (busyS, 0, 0) := by decide
theorem beg2 : begT 0 2 0 = ((begT 0 2 0).1, 2, 0) := by decide
theorem beg3 : begT 1 0 (-1) = ((begT 1 0 (-1)).1, 0, 6) := by decide

set_option maxHeartbeats 4000000 in
set_option maxRecDepth 100000 in
theorem allocBegun (w : World) : Calls Try.prog 41 #[] w fun e w' => e = .returned (.bool true) ∧ Below w.heap.size w w' := by
  go_enter Try.func41, Try.ntmps41
  go_wp2_with fail
  refine (lBusyAt _).mono ?_
  rintro e W1 ⟨V1, rfl, vH, ho1, hb1⟩
  have hone2 := (ho1).one
  have hnb2 := newBox (W1)
  go_wp2_with (refine wpList_store_state rfl (.tmp 1) (.tmp 11) rfl rfl (World.heap (W1)).size nilSV V1 hnb2 rfl rfl hone2 (fun w2 hbox2 hg2 => ?_); refine Hid.out ?_)
  unfold Hid
  have hbb2 := newBelow hg2
  have hbl2 := hbox2.lt
  clear hone2 hnb2 hg2
  have ho2 := ho1.below hbb2
  have hB2 := hb1.trans (hbb2.mono hb1.size)
  obtain ⟨c0, c1, c2, c3, c4, c5, c6⟩ := hbox2.cells
  rw [vH] at c2
  have hfr := hbox2.frozen 2
  go_wp2_with (refine wpList_store_holds rfl (.tmp 15) (.tmp 14) rfl rfl W1.heap.size 2 _ (some ⟨w.heap.size + 8, 4, none⟩) 2 2 rfl rfl c2 hfr (fun w3 hw3 => ?_); refine Hid.out ?_)
  unfold Hid
  obtain ⟨hk3, hg3⟩ := set_row hbox2.blk 2 (.slice (some ⟨w.heap.size + 8, 4, none⟩) 2 2)
  rw [hw3] at hk3 hg3
  have ho3 := ho2.keptBy hg3 hbox2.blk (by decide) (by decide) (by decide) (by decide) (by decide) (by decide)
  have hb3 : Below w.heap.size w w3 := hB2.grown hg3 hB2.size (fun k hk => by injection hk with hk; have := hb1.size; omega)
  clear c0 c1 c2 c3 c4 c5 c6 hfr hw3 hg3 ho2 hbox2 hbb2 ho1
  have x1 := hk3.cell (j := 1) rfl
  obtain ⟨go, co, curo, vO, hgo, blko, kO, kL⟩ := ho3.orderAt (o := 0) (by decide)
  obtain ⟨gl, cl, curl, vL, hgl, blkl, kl0, kl1, kl2, kl3⟩ := ho3.lineAt (o := 0) (k := 0) (by decide) (by decide)
  rw [vO] at x1
  rw [vL] at kL
  have hfl := blkl.frozen (0 * 4 + 3)
  have hn1 : (busyS.orders.length : Int) = 2 := rfl
  have hn2 : ((busyS.order 0).lines.length : Int) = 2 := rfl
  simp only [Nat.zero_mul, Nat.zero_add] at kO kL kl0 kl1 kl2 kl3 hfl
  go_wp2_with (refine wpList_store_int rfl (.tmp 22) (.const (.int .i64 2)) rfl rfl gl 3 _ 2 rfl rfl kl3 hfl (fun w4 hw4 => ?_); refine Hid.out ?_)
  unfold Hid
  obtain ⟨ho4, hg4⟩ := ho3.setLine (o := 0) (k := 0) (j := 3) (y := { busyS.line 0 0 with back := 2 }) (u := .int .i64 2) (by decide) (by decide) vL (by decide) rfl
  simp only [Nat.zero_mul, Nat.zero_add] at ho4 hg4
  rw [hw4] at ho4 hg4
  have hk4 := hk3.grown hg4 (fun he => by injection he with he; exact blkl.ne hk3 (by decide) he.symm)
  have hb4 : Below w.heap.size w w4 := hb3.grown hg4 hb3.size (fun k hk => by injection hk with hk; omega)
  have hvw := Lib.hid (show ∀ W, Below w4.heap.size w4 W → StateV W W.heap.size (.agg #[V1.on, V1.orders, .slice (some ⟨w.heap.size + 8, 4, none⟩) 2 2, V1.moves, V1.inn, V1.out, V1.fixed]) allocX from
    fun W hW => (ho4.below hW).viewHolds (by decide) ((ho4.below hW).tailHolds (x := ⟨0, 0, 0, 2⟩) (l := [⟨0, 0, 1, 3⟩, ⟨0, 1, 2, 6⟩]) rfl (by decide) vH))
  have hbx := Lib.hid (show ∀ W, Below w4.heap.size w4 W → W.cell? ⟨W1.heap.size, 0, none⟩ = some V1.on ∧ W.cell? ⟨W1.heap.size, 1, none⟩ = some V1.orders ∧ W.cell? ⟨W1.heap.size, 2, none⟩ = some (.slice (some ⟨w.heap.size + 8, 4, none⟩) 2 2) ∧ W.cell? ⟨W1.heap.size, 3, none⟩ = some V1.moves ∧
      W.cell? ⟨W1.heap.size, 4, none⟩ = some V1.inn ∧ W.cell? ⟨W1.heap.size, 5, none⟩ = some V1.out ∧ W.cell? ⟨W1.heap.size, 6, none⟩ = some V1.fixed from fun W hW => by
      have hk := hk4.below hW hk4.lt
      exact ⟨hk.cell rfl, hk.cell rfl, hk.cell rfl, hk.cell rfl, hk.cell rfl, hk.cell rfl, hk.cell rfl⟩)
  clear x1 kO kL kl0 kl1 kl2 kl3 hfl hn1 hn2 hw4 ho4 hg4 hk4 hk3 blkl blko vO vL ho3 hb3 hB2 hgo hgl vH hbl2 hb1
  have h44 := Below.refl w4.heap.size w4
  go_wp2_with fail
  refine wp_region_opsP 11 (fun wq => Below (w4).heap.size w4 wq) (KeepSt (w4).heap.size) 2 8 (by decide) (by decide) (by decide) (fun o ho => by injection ho with ho; subst ho; exact ⟨⟨2, .chain⟩, by simp, rfl, rfl⟩)
    [fun ph gq w' => phs (fun v w' => PlanV w' w'.heap.size v yardP) (fun _ _ => True) ph (gq 24) w', fun _ gq _ => gq 25 = .agg #[V1.on, V1.orders, .slice (some ⟨w.heap.size + 8, 4, none⟩) 2 2, V1.moves, V1.inn, V1.out, V1.fixed],
    fun ph gq w' => phs (fun _ _ => False) (fun v w' => ∃ V : SV, v = .tuple #[V.val, .int .i64 0, .int .i64 0] ∧ OwnSt w' (w4).heap.size V busyS) ph (gq 26) w', fun ph gq w' => phs (fun _ _ => False) (fun v w' => ∃ V : SV, v = .tuple #[V.val, .int .i64 0, .int .i64 0] ∧ OwnSt w' (w4).heap.size V busyS) ph (gq 23) w',
    fun ph gq w' => phs (fun _ _ => False) (fun v w' => ∃ V : SV, v = V.val ∧ OwnSt w' (w4).heap.size V busyS) ph (gq 27) w', fun _ gq _ => gq 28 = .int .i64 0, fun _ gq _ => gq 29 = .int .i64 0,
    fun ph gq w' => (fun (ph : Nat) (v : Value) w' => ∃ b, v = .pointer (some ⟨b, 0, none⟩) ∧ (w4).heap.size ≤ b ∧ (ph ≤ 1 → BoxAt w' b nilSV)) ph (gq 2) w',
    fun ph gq w' => ph = 2 ∧ (∃ b V, gq 2 = .pointer (some ⟨b, 0, none⟩) ∧ (w4).heap.size ≤ b ∧ BoxAt w' b V ∧ OwnSt w' (w4).heap.size V busyS), fun _ gq _ => gq 3 = .int .i64 0, fun _ gq _ => gq 4 = .int .i64 0] (by kernel_rfl) (by kernel_rfl) rfl (by kernel_rfl)
    (fun w1 w2 h h' => h.trans (h'.mono h.size)) (fun k w1 w2 h h' => h.trans h'.1) (Below.refl _ _).drew ?_ (fun f w5 hbw5 hR => ?_)
  simp only [List.take_succ_cons, List.take_zero]
  refine OpsPh.cons (OpPh.one (d := 24) rfl rfl (by decide) (by decide) (fun ph v w1 w2 h hb => by
      rcases ph with _ | ph
      · exact PlanV.grow h hb
      · trivial) (fun k v w1 w2 _ h hb => by trivial) (fun ph gq w' hb ho hd => ?_)) ?_
  · unfold OpRel
    go_simp
    refine (lYard w').mono ?_
    rintro e w2 ⟨u, rfl, hu, hb2⟩
    rcases ph with _ | ph
    · exact ⟨_, rfl, hu, hb2⟩
    · exact ⟨_, rfl, trivial, hb2⟩
  refine OpsPh.cons (OpPh.val rfl rfl (by decide) (by decide) (fun ph gq w' hb ho hd => ?_)) ?_
  · have e1 := ho 1 rfl
    obtain ⟨p0, p1, p2, p3, p4, p5, p6⟩ := hbx.out w' ((h44).trans (hb.mono (h44).size))
    go_simp
  refine OpsPh.cons (OpPh.first (d := 26) (p := phs (fun _ _ => False) (fun v w' => ∃ V : SV, v = .tuple #[V.val, .int .i64 0, .int .i64 0] ∧ OwnSt w' (w4).heap.size V busyS)) rfl rfl (fun ph v w1 w2 h hb => by
      rcases ph with _ | ph
      · exact h
      · obtain ⟨V, h1, h2⟩ := h
        exact ⟨V, h1, h2.below hb⟩) (fun v w1 w2 h hb => by
      obtain ⟨V, h1, h2⟩ := h
      exact ⟨V, h1, hb.2.2 rfl _ _ _ h2⟩) (fun gq w' hb ho hd => ?_)) ?_
  · have eA0 : PlanV w' w'.heap.size (gq 24) yardP := hd ⟨0, .data⟩ (by simp) rfl (by decide)
    have eA1 : gq 25 = .agg #[V1.on, V1.orders, .slice (some ⟨w.heap.size + 8, 4, none⟩) 2 2, V1.moves, V1.inn, V1.out, V1.fixed] := hd ⟨1, .data⟩ (by simp) rfl (by decide)
    have hvx := hvw.out w' ((h44).trans (hb.mono (h44).size))
    unfold OpRel
    go_simp
    refine (begTake beg1 w' _ _ eA0 hvx).mono ?_
    rintro e w7 ⟨V7, rfl, ho7, hst7⟩
    exact ⟨_, rfl, ⟨V7, rfl, ho7.from_ hb.size⟩, hst7.mono hb.size, fun _ b V hbo => hbo.below hst7 hbo.lt, fun h => absurd h (by decide)⟩
  refine OpsPh.cons (OpPh.one (d := 23) (p := phs (fun _ _ => False) (fun v w' => ∃ V : SV, v = .tuple #[V.val, .int .i64 0, .int .i64 0] ∧ OwnSt w' (w4).heap.size V busyS)) rfl rfl (by decide) (by decide) (fun ph v w1 w2 h hb => by
      rcases ph with _ | ph
      · exact h
      · obtain ⟨V, h1, h2⟩ := h
        exact ⟨V, h1, h2.below hb⟩) (fun k v w1 w2 hk h hb => by
      rcases (show k = 0 ∨ k = 1 by omega) with rfl | rfl
      · exact h.elim
      · obtain ⟨V, h1, h2⟩ := h
        exact ⟨V, h1, hb.2.2 rfl _ _ _ h2⟩) (fun ph gq w' hb ho hd => ?_)) ?_
  · have e90 : phs (fun _ _ => False) (fun v w' => ∃ V : SV, v = .tuple #[V.val, .int .i64 0, .int .i64 0] ∧ OwnSt w' (w4).heap.size V busyS) ph (gq 26) w' := hd ⟨2, .data⟩ (by simp) rfl (by decide)
    rcases ph with _ | ph
    · exact e90.elim
    · obtain ⟨V7, e90, ho7⟩ := e90
      have ho7' := Lib.hid ho7
      clear ho7
      unfold OpRel
      go_simp
      exact ⟨⟨V7, rfl, ho7'.out⟩, Below.refl _ _⟩
  refine OpsPh.cons (OpPh.one (d := 27) (p := phs (fun _ _ => False) (fun v w' => ∃ V : SV, v = V.val ∧ OwnSt w' (w4).heap.size V busyS)) rfl rfl (by decide) (by decide) (fun ph v w1 w2 h hb => by
      rcases ph with _ | ph
      · exact h
      · obtain ⟨V, h1, h2⟩ := h
        exact ⟨V, h1, h2.below hb⟩) (fun k v w1 w2 hk h hb => by
      rcases (show k = 0 ∨ k = 1 by omega) with rfl | rfl
      · exact h.elim
      · obtain ⟨V, h1, h2⟩ := h
        exact ⟨V, h1, hb.2.2 rfl _ _ _ h2⟩) (fun ph gq w' hb ho hd => ?_)) ?_
  · have e82 : phs (fun _ _ => False) (fun v w' => ∃ V : SV, v = .tuple #[V.val, .int .i64 0, .int .i64 0] ∧ OwnSt w' (w4).heap.size V busyS) ph (gq 23) w' := hd ⟨3, .data⟩ (by simp) rfl (by decide)
    rcases ph with _ | ph
    · exact e82.elim
    · obtain ⟨V7, e82, ho7⟩ := e82
      have ho7' := Lib.hid ho7
      clear ho7
      unfold OpRel
      go_simp
      exact ⟨⟨V7, rfl, ho7'.out⟩, Below.refl _ _⟩
  refine OpsPh.cons (OpPh.val rfl rfl (by decide) (by decide) (fun ph gq w' hb ho hd => ?_)) ?_
  · have e82 : phs (fun _ _ => False) (fun v w' => ∃ V : SV, v = .tuple #[V.val, .int .i64 0, .int .i64 0] ∧ OwnSt w' (w4).heap.size V busyS) ph (gq 23) w' := hd ⟨3, .data⟩ (by simp) rfl (by decide)
    rcases ph with _ | ph
    · exact e82.elim
    · obtain ⟨V7, e82, ho7⟩ := e82
      clear ho7
      go_simp
  refine OpsPh.cons (OpPh.val rfl rfl (by decide) (by decide) (fun ph gq w' hb ho hd => ?_)) ?_
  · have e82 : phs (fun _ _ => False) (fun v w' => ∃ V : SV, v = .tuple #[V.val, .int .i64 0, .int .i64 0] ∧ OwnSt w' (w4).heap.size V busyS) ph (gq 23) w' := hd ⟨3, .data⟩ (by simp) rfl (by decide)
    rcases ph with _ | ph
    · exact e82.elim
    · obtain ⟨V7, e82, ho7⟩ := e82
      clear ho7
      go_simp
  refine OpsPh.cons (OpPh.one (d := 2) (p := fun (ph : Nat) (v : Value) w' => ∃ b, v = .pointer (some ⟨b, 0, none⟩) ∧ (w4).heap.size ≤ b ∧ (ph ≤ 1 → BoxAt w' b nilSV)) rfl rfl (by decide) (by decide) (fun ph v w1 w2 h hb => by
      obtain ⟨b, h1, h2, h3⟩ := h
      exact ⟨b, h1, h2, fun hp => (h3 hp).below hb (h3 hp).lt⟩) (fun k v w1 w2 hk h hb => by
      obtain ⟨b, h1, h2, h3⟩ := h
      refine ⟨b, h1, h2, fun hp => ?_⟩
      obtain rfl : k = 0 := by omega
      exact hb.2.1 rfl _ _ (h3 (by omega))) (fun ph gq w' hb ho hd => ?_)) ?_
  · unfold OpRel
    go_simp
    exact ⟨⟨hb.size, fun _ => Blk.new _ _ _⟩, (Below.refl _ _).alloc (Nat.le_refl _) _⟩
  refine OpsPh.cons (OpPh.second (p := fun gq w' => ∃ b V, gq 2 = .pointer (some ⟨b, 0, none⟩) ∧ (w4).heap.size ≤ b ∧ BoxAt w' b V ∧ OwnSt w' (w4).heap.size V busyS) (by decide) rfl (fun gq w1 w2 h hb => by
      obtain ⟨b, V, h1, h2, h3, h4⟩ := h
      exact ⟨b, V, h1, h2, h3.below hb h3.lt, h4.below hb⟩) (fun gq gq' w1 he h => by
      have e1 := he 7 _ 2 (Anc.back (e := ⟨7, .data⟩) rfl (by simp) rfl rfl (Anc.self _)) rfl rfl
      rw [← e1]
      exact h) (fun gq w' hb ho hd => ?_)) ?_
  · have e16 : ∃ b, gq 2 = .pointer (some ⟨b, 0, none⟩) ∧ (w4).heap.size ≤ b ∧ (1 ≤ 1 → BoxAt w' b nilSV) := hd ⟨7, .data⟩ (by simp) rfl (by decide)
    have e91 : ∃ V : SV, gq 27 = V.val ∧ OwnSt w' (w4).heap.size V busyS := hd ⟨4, .data⟩ (by simp) rfl (by decide)
    obtain ⟨b, e16, hbl, hbo⟩ := e16
    obtain ⟨V7, e91, ho7⟩ := e91
    have hbo := hbo (Nat.le_refl _)
    refine opRel_store_state (.tmp 2) (.tmp 27) rfl b nilSV V7 hbo e16 e91 ho7.one (fun w8 hbox8 hg8 => ?_)
    exact ⟨⟨b, V7, e16, hbl, hbox8, ho7.keptBy hg8 hbo.blk (by decide) (by decide) (by decide) (by decide) (by decide) (by decide)⟩, keepSt_box hbo hbl hg8⟩
  refine OpsPh.cons (OpPh.val rfl rfl (by decide) (by decide) (fun ph gq w' hb ho hd => ?_)) ?_
  · have e92 : gq 28 = .int .i64 0 := hd ⟨5, .data⟩ (by simp) rfl (by decide)
    go_simp
  refine OpsPh.cons (OpPh.val rfl rfl (by decide) (by decide) (fun ph gq w' hb ho hd => ?_)) ?_
  · have e92 : gq 29 = .int .i64 0 := hd ⟨6, .data⟩ (by simp) rfl (by decide)
    go_simp
  exact OpsPh.nil
  obtain ⟨_, r1, ⟨V0, r2, _⟩, ⟨V00, r3, _⟩, ⟨V000, r4, _⟩, r5, r6, _, ⟨_, w5', Vw5, r7, hlw5, hboxw5, how5⟩, r8, r9, _⟩ := hR
  simp only [fillA, fillT, List.take_succ_cons, List.take_zero, List.drop_succ_cons, List.drop_zero, List.filterMap_cons, List.filterMap_nil, List.foldl_cons, List.foldl_nil, List.setIfInBounds_toArray, List.set_cons_zero, List.set_cons_succ, r1, r2, r3, r4, r5, r6, r7, r8, r9]
  generalize f 24 = zw5
  clear r1 r2 r3 r4 r5 r6 r7 r8 r9
  refine wpList_nil ?_
  have h45 := h44.trans (hbw5.mono h44.size)
  have hbo5 := Lib.hid hboxw5
  have hvo5 := Lib.hid (how5.view0 (by decide))
  have hbl5 := hboxw5.lt
  clear hboxw5 how5
  go_wp2_with fail
  refine wp_region_opsP 11 (fun wq => Below (w5).heap.size w5 wq) (KeepSt (w5).heap.size) 2 8 (by decide) (by decide) (by decide) (fun o ho => by injection ho with ho; subst ho; exact ⟨⟨2, .chain⟩, by simp, rfl, rfl⟩)
    [fun ph gq w' => phs (fun v w' => PlanV w' w'.heap.size v yardP) (fun _ _ => True) ph (gq 31) w', fun _ gq _ => gq 32 = .agg #[V1.on, V1.orders, .slice (some ⟨w.heap.size + 8, 4, none⟩) 2 2, V1.moves, V1.inn, V1.out, V1.fixed],
    fun ph gq w' => phs (fun _ _ => False) (fun v w' => ∃ V : SV, v = .tuple #[V.val, .int .i64 2, .int .i64 0] ∧ OwnSt w' (w5).heap.size V (begT 0 2 0).1) ph (gq 33) w', fun ph gq w' => phs (fun _ _ => False) (fun v w' => ∃ V : SV, v = .tuple #[V.val, .int .i64 2, .int .i64 0] ∧ OwnSt w' (w5).heap.size V (begT 0 2 0).1) ph (gq 30) w',
    fun ph gq w' => phs (fun _ _ => False) (fun v w' => ∃ V : SV, v = V.val ∧ OwnSt w' (w5).heap.size V (begT 0 2 0).1) ph (gq 34) w', fun _ gq _ => gq 35 = .int .i64 2, fun _ gq _ => gq 36 = .int .i64 0,
    fun ph gq w' => (fun (ph : Nat) (v : Value) w' => ∃ b, v = .pointer (some ⟨b, 0, none⟩) ∧ (w5).heap.size ≤ b ∧ (ph ≤ 1 → BoxAt w' b nilSV)) ph (gq 5) w',
    fun ph gq w' => ph = 2 ∧ (∃ b V, gq 5 = .pointer (some ⟨b, 0, none⟩) ∧ (w5).heap.size ≤ b ∧ BoxAt w' b V ∧ OwnSt w' (w5).heap.size V (begT 0 2 0).1), fun _ gq _ => gq 6 = .int .i64 2, fun _ gq _ => gq 7 = .int .i64 0] (by kernel_rfl) (by kernel_rfl) rfl (by kernel_rfl)
    (fun w1 w2 h h' => h.trans (h'.mono h.size)) (fun k w1 w2 h h' => h.trans h'.1) (Below.refl _ _).drew ?_ (fun f w6 hbw6 hR => ?_)
  simp only [List.take_succ_cons, List.take_zero]
  refine OpsPh.cons (OpPh.one (d := 31) rfl rfl (by decide) (by decide) (fun ph v w1 w2 h hb => by
      rcases ph with _ | ph
      · exact PlanV.grow h hb
      · trivial) (fun k v w1 w2 _ h hb => by trivial) (fun ph gq w' hb ho hd => ?_)) ?_
  · unfold OpRel
    go_simp
    refine (lYard w').mono ?_
    rintro e w2 ⟨u, rfl, hu, hb2⟩
    rcases ph with _ | ph
    · exact ⟨_, rfl, hu, hb2⟩
    · exact ⟨_, rfl, trivial, hb2⟩
  refine OpsPh.cons (OpPh.val rfl rfl (by decide) (by decide) (fun ph gq w' hb ho hd => ?_)) ?_
  · have e1 := ho 1 rfl
    obtain ⟨p0, p1, p2, p3, p4, p5, p6⟩ := hbx.out w' ((h45).trans (hb.mono (h45).size))
    go_simp
  refine OpsPh.cons (OpPh.first (d := 33) (p := phs (fun _ _ => False) (fun v w' => ∃ V : SV, v = .tuple #[V.val, .int .i64 2, .int .i64 0] ∧ OwnSt w' (w5).heap.size V (begT 0 2 0).1)) rfl rfl (fun ph v w1 w2 h hb => by
      rcases ph with _ | ph
      · exact h
      · obtain ⟨V, h1, h2⟩ := h
        exact ⟨V, h1, h2.below hb⟩) (fun v w1 w2 h hb => by
      obtain ⟨V, h1, h2⟩ := h
      exact ⟨V, h1, hb.2.2 rfl _ _ _ h2⟩) (fun gq w' hb ho hd => ?_)) ?_
  · have eA0 : PlanV w' w'.heap.size (gq 31) yardP := hd ⟨0, .data⟩ (by simp) rfl (by decide)
    have eA1 : gq 32 = .agg #[V1.on, V1.orders, .slice (some ⟨w.heap.size + 8, 4, none⟩) 2 2, V1.moves, V1.inn, V1.out, V1.fixed] := hd ⟨1, .data⟩ (by simp) rfl (by decide)
    have hvx := hvw.out w' ((h45).trans (hb.mono (h45).size))
    unfold OpRel
    go_simp
    refine (begTake beg2 w' _ _ eA0 hvx).mono ?_
    rintro e w7 ⟨V7, rfl, ho7, hst7⟩
    exact ⟨_, rfl, ⟨V7, rfl, ho7.from_ hb.size⟩, hst7.mono hb.size, fun _ b V hbo => hbo.below hst7 hbo.lt, fun h => absurd h (by decide)⟩
  refine OpsPh.cons (OpPh.one (d := 30) (p := phs (fun _ _ => False) (fun v w' => ∃ V : SV, v = .tuple #[V.val, .int .i64 2, .int .i64 0] ∧ OwnSt w' (w5).heap.size V (begT 0 2 0).1)) rfl rfl (by decide) (by decide) (fun ph v w1 w2 h hb => by
      rcases ph with _ | ph
      · exact h
      · obtain ⟨V, h1, h2⟩ := h
        exact ⟨V, h1, h2.below hb⟩) (fun k v w1 w2 hk h hb => by
      rcases (show k = 0 ∨ k = 1 by omega) with rfl | rfl
      · exact h.elim
      · obtain ⟨V, h1, h2⟩ := h
        exact ⟨V, h1, hb.2.2 rfl _ _ _ h2⟩) (fun ph gq w' hb ho hd => ?_)) ?_
  · have e90 : phs (fun _ _ => False) (fun v w' => ∃ V : SV, v = .tuple #[V.val, .int .i64 2, .int .i64 0] ∧ OwnSt w' (w5).heap.size V (begT 0 2 0).1) ph (gq 33) w' := hd ⟨2, .data⟩ (by simp) rfl (by decide)
    rcases ph with _ | ph
    · exact e90.elim
    · obtain ⟨V7, e90, ho7⟩ := e90
      have ho7' := Lib.hid ho7
      clear ho7
      unfold OpRel
      go_simp
      exact ⟨⟨V7, rfl, ho7'.out⟩, Below.refl _ _⟩
  refine OpsPh.cons (OpPh.one (d := 34) (p := phs (fun _ _ => False) (fun v w' => ∃ V : SV, v = V.val ∧ OwnSt w' (w5).heap.size V (begT 0 2 0).1)) rfl rfl (by decide) (by decide) (fun ph v w1 w2 h hb => by
      rcases ph with _ | ph
      · exact h
      · obtain ⟨V, h1, h2⟩ := h
        exact ⟨V, h1, h2.below hb⟩) (fun k v w1 w2 hk h hb => by
      rcases (show k = 0 ∨ k = 1 by omega) with rfl | rfl
      · exact h.elim
      · obtain ⟨V, h1, h2⟩ := h
        exact ⟨V, h1, hb.2.2 rfl _ _ _ h2⟩) (fun ph gq w' hb ho hd => ?_)) ?_
  · have e82 : phs (fun _ _ => False) (fun v w' => ∃ V : SV, v = .tuple #[V.val, .int .i64 2, .int .i64 0] ∧ OwnSt w' (w5).heap.size V (begT 0 2 0).1) ph (gq 30) w' := hd ⟨3, .data⟩ (by simp) rfl (by decide)
    rcases ph with _ | ph
    · exact e82.elim
    · obtain ⟨V7, e82, ho7⟩ := e82
      have ho7' := Lib.hid ho7
      clear ho7
      unfold OpRel
      go_simp
      exact ⟨⟨V7, rfl, ho7'.out⟩, Below.refl _ _⟩
  refine OpsPh.cons (OpPh.val rfl rfl (by decide) (by decide) (fun ph gq w' hb ho hd => ?_)) ?_
  · have e82 : phs (fun _ _ => False) (fun v w' => ∃ V : SV, v = .tuple #[V.val, .int .i64 2, .int .i64 0] ∧ OwnSt w' (w5).heap.size V (begT 0 2 0).1) ph (gq 30) w' := hd ⟨3, .data⟩ (by simp) rfl (by decide)
    rcases ph with _ | ph
    · exact e82.elim
    · obtain ⟨V7, e82, ho7⟩ := e82
      clear ho7
      go_simp
  refine OpsPh.cons (OpPh.val rfl rfl (by decide) (by decide) (fun ph gq w' hb ho hd => ?_)) ?_
  · have e82 : phs (fun _ _ => False) (fun v w' => ∃ V : SV, v = .tuple #[V.val, .int .i64 2, .int .i64 0] ∧ OwnSt w' (w5).heap.size V (begT 0 2 0).1) ph (gq 30) w' := hd ⟨3, .data⟩ (by simp) rfl (by decide)
    rcases ph with _ | ph
    · exact e82.elim
    · obtain ⟨V7, e82, ho7⟩ := e82
      clear ho7
      go_simp
  refine OpsPh.cons (OpPh.one (d := 5) (p := fun (ph : Nat) (v : Value) w' => ∃ b, v = .pointer (some ⟨b, 0, none⟩) ∧ (w5).heap.size ≤ b ∧ (ph ≤ 1 → BoxAt w' b nilSV)) rfl rfl (by decide) (by decide) (fun ph v w1 w2 h hb => by
      obtain ⟨b, h1, h2, h3⟩ := h
      exact ⟨b, h1, h2, fun hp => (h3 hp).below hb (h3 hp).lt⟩) (fun k v w1 w2 hk h hb => by
      obtain ⟨b, h1, h2, h3⟩ := h
      refine ⟨b, h1, h2, fun hp => ?_⟩
      obtain rfl : k = 0 := by omega
      exact hb.2.1 rfl _ _ (h3 (by omega))) (fun ph gq w' hb ho hd => ?_)) ?_
  · unfold OpRel
    go_simp
    exact ⟨⟨hb.size, fun _ => Blk.new _ _ _⟩, (Below.refl _ _).alloc (Nat.le_refl _) _⟩
  refine OpsPh.cons (OpPh.second (p := fun gq w' => ∃ b V, gq 5 = .pointer (some ⟨b, 0, none⟩) ∧ (w5).heap.size ≤ b ∧ BoxAt w' b V ∧ OwnSt w' (w5).heap.size V (begT 0 2 0).1) (by decide) rfl (fun gq w1 w2 h hb => by
      obtain ⟨b, V, h1, h2, h3, h4⟩ := h
      exact ⟨b, V, h1, h2, h3.below hb h3.lt, h4.below hb⟩) (fun gq gq' w1 he h => by
      have e1 := he 7 _ 5 (Anc.back (e := ⟨7, .data⟩) rfl (by simp) rfl rfl (Anc.self _)) rfl rfl
      rw [← e1]
      exact h) (fun gq w' hb ho hd => ?_)) ?_
  · have e16 : ∃ b, gq 5 = .pointer (some ⟨b, 0, none⟩) ∧ (w5).heap.size ≤ b ∧ (1 ≤ 1 → BoxAt w' b nilSV) := hd ⟨7, .data⟩ (by simp) rfl (by decide)
    have e91 : ∃ V : SV, gq 34 = V.val ∧ OwnSt w' (w5).heap.size V (begT 0 2 0).1 := hd ⟨4, .data⟩ (by simp) rfl (by decide)
    obtain ⟨b, e16, hbl, hbo⟩ := e16
    obtain ⟨V7, e91, ho7⟩ := e91
    have hbo := hbo (Nat.le_refl _)
    refine opRel_store_state (.tmp 5) (.tmp 34) rfl b nilSV V7 hbo e16 e91 ho7.one (fun w8 hbox8 hg8 => ?_)
    exact ⟨⟨b, V7, e16, hbl, hbox8, ho7.keptBy hg8 hbo.blk (by decide) (by decide) (by decide) (by decide) (by decide) (by decide)⟩, keepSt_box hbo hbl hg8⟩
  refine OpsPh.cons (OpPh.val rfl rfl (by decide) (by decide) (fun ph gq w' hb ho hd => ?_)) ?_
  · have e92 : gq 35 = .int .i64 2 := hd ⟨5, .data⟩ (by simp) rfl (by decide)
    go_simp
  refine OpsPh.cons (OpPh.val rfl rfl (by decide) (by decide) (fun ph gq w' hb ho hd => ?_)) ?_
  · have e92 : gq 36 = .int .i64 0 := hd ⟨6, .data⟩ (by simp) rfl (by decide)
    go_simp
  exact OpsPh.nil
  obtain ⟨_, r1, ⟨V0, r2, _⟩, ⟨V00, r3, _⟩, ⟨V000, r4, _⟩, r5, r6, _, ⟨_, w6', Vw6, r7, hlw6, hboxw6, how6⟩, r8, r9, _⟩ := hR
  simp only [fillA, fillT, List.take_succ_cons, List.take_zero, List.drop_succ_cons, List.drop_zero, List.filterMap_cons, List.filterMap_nil, List.foldl_cons, List.foldl_nil, List.setIfInBounds_toArray, List.set_cons_zero, List.set_cons_succ, r1, r2, r3, r4, r5, r6, r7, r8, r9]
  generalize f 31 = zw6
  clear r1 r2 r3 r4 r5 r6 r7 r8 r9
  refine wpList_nil ?_
  have h46 := h45.trans (hbw6.mono h45.size)
  clear hboxw6 how6
  go_wp2_with fail
  refine wp_region_opsP 11 (fun wq => Below (w6).heap.size w6 wq) (KeepSt (w6).heap.size) 2 8 (by decide) (by decide) (by decide) (fun o ho => by injection ho with ho; subst ho; exact ⟨⟨2, .chain⟩, by simp, rfl, rfl⟩)
    [fun ph gq w' => phs (fun v w' => PlanV w' w'.heap.size v yardP) (fun _ _ => True) ph (gq 38) w', fun _ gq _ => gq 39 = .agg #[V1.on, V1.orders, .slice (some ⟨w.heap.size + 8, 4, none⟩) 2 2, V1.moves, V1.inn, V1.out, V1.fixed],
    fun ph gq w' => phs (fun _ _ => False) (fun v w' => ∃ V : SV, v = .tuple #[V.val, .int .i64 0, .int .i64 6] ∧ OwnSt w' (w6).heap.size V (begT 1 0 (-1)).1) ph (gq 40) w', fun ph gq w' => phs (fun _ _ => False) (fun v w' => ∃ V : SV, v = .tuple #[V.val, .int .i64 0, .int .i64 6] ∧ OwnSt w' (w6).heap.size V (begT 1 0 (-1)).1) ph (gq 37) w',
    fun ph gq w' => phs (fun _ _ => False) (fun v w' => ∃ V : SV, v = V.val ∧ OwnSt w' (w6).heap.size V (begT 1 0 (-1)).1) ph (gq 41) w', fun _ gq _ => gq 42 = .int .i64 0, fun _ gq _ => gq 43 = .int .i64 6,
    fun ph gq w' => (fun (ph : Nat) (v : Value) w' => ∃ b, v = .pointer (some ⟨b, 0, none⟩) ∧ (w6).heap.size ≤ b ∧ (ph ≤ 1 → BoxAt w' b nilSV)) ph (gq 8) w',
    fun ph gq w' => ph = 2 ∧ (∃ b V, gq 8 = .pointer (some ⟨b, 0, none⟩) ∧ (w6).heap.size ≤ b ∧ BoxAt w' b V ∧ OwnSt w' (w6).heap.size V (begT 1 0 (-1)).1), fun _ gq _ => gq 9 = .int .i64 0, fun _ gq _ => gq 10 = .int .i64 6] (by kernel_rfl) (by kernel_rfl) rfl (by kernel_rfl)
    (fun w1 w2 h h' => h.trans (h'.mono h.size)) (fun k w1 w2 h h' => h.trans h'.1) (Below.refl _ _).drew ?_ (fun f w7 hbw7 hR => ?_)
  simp only [List.take_succ_cons, List.take_zero]
  refine OpsPh.cons (OpPh.one (d := 38) rfl rfl (by decide) (by decide) (fun ph v w1 w2 h hb => by
      rcases ph with _ | ph
      · exact PlanV.grow h hb
      · trivial) (fun k v w1 w2 _ h hb => by trivial) (fun ph gq w' hb ho hd => ?_)) ?_
  · unfold OpRel
    go_simp
    refine (lYard w').mono ?_
    rintro e w2 ⟨u, rfl, hu, hb2⟩
    rcases ph with _ | ph
    · exact ⟨_, rfl, hu, hb2⟩
    · exact ⟨_, rfl, trivial, hb2⟩
  refine OpsPh.cons (OpPh.val rfl rfl (by decide) (by decide) (fun ph gq w' hb ho hd => ?_)) ?_
  · have e1 := ho 1 rfl
    obtain ⟨p0, p1, p2, p3, p4, p5, p6⟩ := hbx.out w' ((h46).trans (hb.mono (h46).size))
    go_simp
  refine OpsPh.cons (OpPh.first (d := 40) (p := phs (fun _ _ => False) (fun v w' => ∃ V : SV, v = .tuple #[V.val, .int .i64 0, .int .i64 6] ∧ OwnSt w' (w6).heap.size V (begT 1 0 (-1)).1)) rfl rfl (fun ph v w1 w2 h hb => by
      rcases ph with _ | ph
      · exact h
      · obtain ⟨V, h1, h2⟩ := h
        exact ⟨V, h1, h2.below hb⟩) (fun v w1 w2 h hb => by
      obtain ⟨V, h1, h2⟩ := h
      exact ⟨V, h1, hb.2.2 rfl _ _ _ h2⟩) (fun gq w' hb ho hd => ?_)) ?_
  · have eA0 : PlanV w' w'.heap.size (gq 38) yardP := hd ⟨0, .data⟩ (by simp) rfl (by decide)
    have eA1 : gq 39 = .agg #[V1.on, V1.orders, .slice (some ⟨w.heap.size + 8, 4, none⟩) 2 2, V1.moves, V1.inn, V1.out, V1.fixed] := hd ⟨1, .data⟩ (by simp) rfl (by decide)
    have hvx := hvw.out w' ((h46).trans (hb.mono (h46).size))
    unfold OpRel
    go_simp
    refine (begTake beg3 w' _ _ eA0 hvx).mono ?_
    rintro e w7 ⟨V7, rfl, ho7, hst7⟩
    exact ⟨_, rfl, ⟨V7, rfl, ho7.from_ hb.size⟩, hst7.mono hb.size, fun _ b V hbo => hbo.below hst7 hbo.lt, fun h => absurd h (by decide)⟩
  refine OpsPh.cons (OpPh.one (d := 37) (p := phs (fun _ _ => False) (fun v w' => ∃ V : SV, v = .tuple #[V.val, .int .i64 0, .int .i64 6] ∧ OwnSt w' (w6).heap.size V (begT 1 0 (-1)).1)) rfl rfl (by decide) (by decide) (fun ph v w1 w2 h hb => by
      rcases ph with _ | ph
      · exact h
      · obtain ⟨V, h1, h2⟩ := h
        exact ⟨V, h1, h2.below hb⟩) (fun k v w1 w2 hk h hb => by
      rcases (show k = 0 ∨ k = 1 by omega) with rfl | rfl
      · exact h.elim
      · obtain ⟨V, h1, h2⟩ := h
        exact ⟨V, h1, hb.2.2 rfl _ _ _ h2⟩) (fun ph gq w' hb ho hd => ?_)) ?_
  · have e90 : phs (fun _ _ => False) (fun v w' => ∃ V : SV, v = .tuple #[V.val, .int .i64 0, .int .i64 6] ∧ OwnSt w' (w6).heap.size V (begT 1 0 (-1)).1) ph (gq 40) w' := hd ⟨2, .data⟩ (by simp) rfl (by decide)
    rcases ph with _ | ph
    · exact e90.elim
    · obtain ⟨V7, e90, ho7⟩ := e90
      have ho7' := Lib.hid ho7
      clear ho7
      unfold OpRel
      go_simp
      exact ⟨⟨V7, rfl, ho7'.out⟩, Below.refl _ _⟩
  refine OpsPh.cons (OpPh.one (d := 41) (p := phs (fun _ _ => False) (fun v w' => ∃ V : SV, v = V.val ∧ OwnSt w' (w6).heap.size V (begT 1 0 (-1)).1)) rfl rfl (by decide) (by decide) (fun ph v w1 w2 h hb => by
      rcases ph with _ | ph
      · exact h
      · obtain ⟨V, h1, h2⟩ := h
        exact ⟨V, h1, h2.below hb⟩) (fun k v w1 w2 hk h hb => by
      rcases (show k = 0 ∨ k = 1 by omega) with rfl | rfl
      · exact h.elim
      · obtain ⟨V, h1, h2⟩ := h
        exact ⟨V, h1, hb.2.2 rfl _ _ _ h2⟩) (fun ph gq w' hb ho hd => ?_)) ?_
  · have e82 : phs (fun _ _ => False) (fun v w' => ∃ V : SV, v = .tuple #[V.val, .int .i64 0, .int .i64 6] ∧ OwnSt w' (w6).heap.size V (begT 1 0 (-1)).1) ph (gq 37) w' := hd ⟨3, .data⟩ (by simp) rfl (by decide)
    rcases ph with _ | ph
    · exact e82.elim
    · obtain ⟨V7, e82, ho7⟩ := e82
      have ho7' := Lib.hid ho7
      clear ho7
      unfold OpRel
      go_simp
      exact ⟨⟨V7, rfl, ho7'.out⟩, Below.refl _ _⟩
  refine OpsPh.cons (OpPh.val rfl rfl (by decide) (by decide) (fun ph gq w' hb ho hd => ?_)) ?_
  · have e82 : phs (fun _ _ => False) (fun v w' => ∃ V : SV, v = .tuple #[V.val, .int .i64 0, .int .i64 6] ∧ OwnSt w' (w6).heap.size V (begT 1 0 (-1)).1) ph (gq 37) w' := hd ⟨3, .data⟩ (by simp) rfl (by decide)
    rcases ph with _ | ph
    · exact e82.elim
    · obtain ⟨V7, e82, ho7⟩ := e82
      clear ho7
      go_simp
  refine OpsPh.cons (OpPh.val rfl rfl (by decide) (by decide) (fun ph gq w' hb ho hd => ?_)) ?_
  · have e82 : phs (fun _ _ => False) (fun v w' => ∃ V : SV, v = .tuple #[V.val, .int .i64 0, .int .i64 6] ∧ OwnSt w' (w6).heap.size V (begT 1 0 (-1)).1) ph (gq 37) w' := hd ⟨3, .data⟩ (by simp) rfl (by decide)
    rcases ph with _ | ph
    · exact e82.elim
    · obtain ⟨V7, e82, ho7⟩ := e82
      clear ho7
      go_simp
  refine OpsPh.cons (OpPh.one (d := 8) (p := fun (ph : Nat) (v : Value) w' => ∃ b, v = .pointer (some ⟨b, 0, none⟩) ∧ (w6).heap.size ≤ b ∧ (ph ≤ 1 → BoxAt w' b nilSV)) rfl rfl (by decide) (by decide) (fun ph v w1 w2 h hb => by
      obtain ⟨b, h1, h2, h3⟩ := h
      exact ⟨b, h1, h2, fun hp => (h3 hp).below hb (h3 hp).lt⟩) (fun k v w1 w2 hk h hb => by
      obtain ⟨b, h1, h2, h3⟩ := h
      refine ⟨b, h1, h2, fun hp => ?_⟩
      obtain rfl : k = 0 := by omega
      exact hb.2.1 rfl _ _ (h3 (by omega))) (fun ph gq w' hb ho hd => ?_)) ?_
  · unfold OpRel
    go_simp
    exact ⟨⟨hb.size, fun _ => Blk.new _ _ _⟩, (Below.refl _ _).alloc (Nat.le_refl _) _⟩
  refine OpsPh.cons (OpPh.second (p := fun gq w' => ∃ b V, gq 8 = .pointer (some ⟨b, 0, none⟩) ∧ (w6).heap.size ≤ b ∧ BoxAt w' b V ∧ OwnSt w' (w6).heap.size V (begT 1 0 (-1)).1) (by decide) rfl (fun gq w1 w2 h hb => by
      obtain ⟨b, V, h1, h2, h3, h4⟩ := h
      exact ⟨b, V, h1, h2, h3.below hb h3.lt, h4.below hb⟩) (fun gq gq' w1 he h => by
      have e1 := he 7 _ 8 (Anc.back (e := ⟨7, .data⟩) rfl (by simp) rfl rfl (Anc.self _)) rfl rfl
      rw [← e1]
      exact h) (fun gq w' hb ho hd => ?_)) ?_
  · have e16 : ∃ b, gq 8 = .pointer (some ⟨b, 0, none⟩) ∧ (w6).heap.size ≤ b ∧ (1 ≤ 1 → BoxAt w' b nilSV) := hd ⟨7, .data⟩ (by simp) rfl (by decide)
    have e91 : ∃ V : SV, gq 41 = V.val ∧ OwnSt w' (w6).heap.size V (begT 1 0 (-1)).1 := hd ⟨4, .data⟩ (by simp) rfl (by decide)
    obtain ⟨b, e16, hbl, hbo⟩ := e16
    obtain ⟨V7, e91, ho7⟩ := e91
    have hbo := hbo (Nat.le_refl _)
    refine opRel_store_state (.tmp 8) (.tmp 41) rfl b nilSV V7 hbo e16 e91 ho7.one (fun w8 hbox8 hg8 => ?_)
    exact ⟨⟨b, V7, e16, hbl, hbox8, ho7.keptBy hg8 hbo.blk (by decide) (by decide) (by decide) (by decide) (by decide) (by decide)⟩, keepSt_box hbo hbl hg8⟩
  refine OpsPh.cons (OpPh.val rfl rfl (by decide) (by decide) (fun ph gq w' hb ho hd => ?_)) ?_
  · have e92 : gq 42 = .int .i64 0 := hd ⟨5, .data⟩ (by simp) rfl (by decide)
    go_simp
  refine OpsPh.cons (OpPh.val rfl rfl (by decide) (by decide) (fun ph gq w' hb ho hd => ?_)) ?_
  · have e92 : gq 43 = .int .i64 6 := hd ⟨6, .data⟩ (by simp) rfl (by decide)
    go_simp
  exact OpsPh.nil
  obtain ⟨_, r1, ⟨V0, r2, _⟩, ⟨V00, r3, _⟩, ⟨V000, r4, _⟩, r5, r6, _, ⟨_, w7', Vw7, r7, hlw7, hboxw7, how7⟩, r8, r9, _⟩ := hR
  simp only [fillA, fillT, List.take_succ_cons, List.take_zero, List.drop_succ_cons, List.drop_zero, List.filterMap_cons, List.filterMap_nil, List.foldl_cons, List.foldl_nil, List.setIfInBounds_toArray, List.set_cons_zero, List.set_cons_succ, r1, r2, r3, r4, r5, r6, r7, r8, r9]
  generalize f 38 = zw7
  clear r1 r2 r3 r4 r5 r6 r7 r8 r9
  refine wpList_nil ?_
  have h47 := h46.trans (hbw7.mono h46.size)
  have h57 := hbw6.trans (hbw7.mono hbw6.size)
  have hb7 := hb4.trans (h47.mono hb4.size)
  have hbo7 := Lib.hid (hbo5.out.below h57 hbl5)
  have hvo7 := Lib.hid (hvo5.out.grow h57)
  have hbl7 := Nat.lt_of_lt_of_le hbl5 h57.size
  clear hboxw7 how7 hbo5 hvo5 hbl5 h45 h46 h57
  go_wp2_with fail
  refine wp_region_opsG 23 [fun gq _ => gq 44 = .int .i64 0, fun gq _ => gq 45 = .bool true, fun gq _ => gq 46 = .bool true, fun gq _ => gq 47 = .int .i64 0, fun gq _ => gq 48 = .bool true, fun gq _ => gq 49 = .bool true, fun gq _ => gq 50 = .bool true, fun gq _ => gq 51 = .int .i64 6, fun gq _ => gq 52 = .bool true, fun gq _ => gq 53 = .bool true, fun gq _ => gq 54 = .bool true, fun gq _ => gq 55 = .int .i64 0, fun gq _ => gq 56 = .bool true, fun gq _ => gq 57 = .bool true, fun gq _ => gq 58 = .bool true, fun gq _ => gq 59 = .int .i64 2, fun gq _ => gq 60 = .bool true, fun gq _ => gq 61 = .bool true, fun gq _ => gq 62 = .bool true, fun gq _ => gq 63 = .agg #[Vw5.on, Vw5.orders, Vw5.holds, Vw5.moves, Vw5.inn, Vw5.out, Vw5.fixed], fun gq w' => (fun v w' => StateV w' w'.heap.size v busyS) (gq 64) w', fun gq w' => (fun v w' => v = .bool true) (gq 65) w', fun gq _ => gq 66 = .bool true] (by kernel_rfl) (by kernel_rfl) rfl (by kernel_rfl) ?_ (fun f w2 hb2 hR => ?_)
  simp only [List.take_succ_cons, List.take_zero]
  refine OpsG.cons (OpG.val rfl rfl (fun gq w' ho hd => trivial) (fun gq w' hb ho hd => ?_)) ?_
  · have e4 := ho 4 rfl
    go_simp
  refine OpsG.cons (OpG.val rfl rfl (fun gq w' ho hd => trivial) (fun gq w' hb ho hd => ?_)) ?_
  · have e44 : gq 44 = .int .i64 0 := hd ⟨0, .data⟩ (by simp) rfl (by decide)
    go_simp
  refine OpsG.cons (OpG.val rfl rfl (fun gq w' ho hd => trivial) (fun gq w' hb ho hd => ?_)) ?_
  · have e45 : gq 45 = .bool true := hd ⟨1, .data⟩ (by simp) rfl (by decide)
    go_simp
  refine OpsG.cons (OpG.val rfl rfl (fun gq w' ho hd => ⟨_, rfl, hd ⟨2, .guard⟩ (by simp) rfl (by decide)⟩) (fun gq w' hb ho hd => ?_)) ?_
  · have e7 := ho 7 rfl
    go_simp
  refine OpsG.cons (OpG.val rfl rfl (fun gq w' ho hd => ⟨_, rfl, hd ⟨2, .guard⟩ (by simp) rfl (by decide)⟩) (fun gq w' hb ho hd => ?_)) ?_
  · have e47 : gq 47 = .int .i64 0 := hd ⟨3, .data⟩ (by simp) rfl (by decide)
    go_simp
  refine OpsG.cons (OpG.val rfl rfl (fun gq w' ho hd => trivial) (fun gq w' hb ho hd => ?_)) ?_
  · have e46 : gq 46 = .bool true := hd ⟨2, .data⟩ (by simp) rfl (by decide)
    have e48 : gq 48 = .bool true := hd ⟨4, .data⟩ (by simp) rfl (by decide)
    go_simp
  refine OpsG.cons (OpG.val rfl rfl (fun gq w' ho hd => trivial) (fun gq w' hb ho hd => ?_)) ?_
  · have e49 : gq 49 = .bool true := hd ⟨5, .data⟩ (by simp) rfl (by decide)
    go_simp
  refine OpsG.cons (OpG.val rfl rfl (fun gq w' ho hd => ⟨_, rfl, hd ⟨6, .guard⟩ (by simp) rfl (by decide)⟩) (fun gq w' hb ho hd => ?_)) ?_
  · have e10 := ho 10 rfl
    go_simp
  refine OpsG.cons (OpG.val rfl rfl (fun gq w' ho hd => ⟨_, rfl, hd ⟨6, .guard⟩ (by simp) rfl (by decide)⟩) (fun gq w' hb ho hd => ?_)) ?_
  · have e51 : gq 51 = .int .i64 6 := hd ⟨7, .data⟩ (by simp) rfl (by decide)
    go_simp
  refine OpsG.cons (OpG.val rfl rfl (fun gq w' ho hd => trivial) (fun gq w' hb ho hd => ?_)) ?_
  · have e50 : gq 50 = .bool true := hd ⟨6, .data⟩ (by simp) rfl (by decide)
    have e52 : gq 52 = .bool true := hd ⟨8, .data⟩ (by simp) rfl (by decide)
    go_simp
  refine OpsG.cons (OpG.val rfl rfl (fun gq w' ho hd => trivial) (fun gq w' hb ho hd => ?_)) ?_
  · have e53 : gq 53 = .bool true := hd ⟨9, .data⟩ (by simp) rfl (by decide)
    go_simp
  refine OpsG.cons (OpG.val rfl rfl (fun gq w' ho hd => ⟨_, rfl, hd ⟨10, .guard⟩ (by simp) rfl (by decide)⟩) (fun gq w' hb ho hd => ?_)) ?_
  · have e3 := ho 3 rfl
    go_simp
  refine OpsG.cons (OpG.val rfl rfl (fun gq w' ho hd => ⟨_, rfl, hd ⟨10, .guard⟩ (by simp) rfl (by decide)⟩) (fun gq w' hb ho hd => ?_)) ?_
  · have e55 : gq 55 = .int .i64 0 := hd ⟨11, .data⟩ (by simp) rfl (by decide)
    go_simp
  refine OpsG.cons (OpG.val rfl rfl (fun gq w' ho hd => trivial) (fun gq w' hb ho hd => ?_)) ?_
  · have e54 : gq 54 = .bool true := hd ⟨10, .data⟩ (by simp) rfl (by decide)
    have e56 : gq 56 = .bool true := hd ⟨12, .data⟩ (by simp) rfl (by decide)
    go_simp
  refine OpsG.cons (OpG.val rfl rfl (fun gq w' ho hd => trivial) (fun gq w' hb ho hd => ?_)) ?_
  · have e57 : gq 57 = .bool true := hd ⟨13, .data⟩ (by simp) rfl (by decide)
    go_simp
  refine OpsG.cons (OpG.val rfl rfl (fun gq w' ho hd => ⟨_, rfl, hd ⟨14, .guard⟩ (by simp) rfl (by decide)⟩) (fun gq w' hb ho hd => ?_)) ?_
  · have e6 := ho 6 rfl
    go_simp
  refine OpsG.cons (OpG.val rfl rfl (fun gq w' ho hd => ⟨_, rfl, hd ⟨14, .guard⟩ (by simp) rfl (by decide)⟩) (fun gq w' hb ho hd => ?_)) ?_
  · have e59 : gq 59 = .int .i64 2 := hd ⟨15, .data⟩ (by simp) rfl (by decide)
    go_simp
  refine OpsG.cons (OpG.val rfl rfl (fun gq w' ho hd => trivial) (fun gq w' hb ho hd => ?_)) ?_
  · have e58 : gq 58 = .bool true := hd ⟨14, .data⟩ (by simp) rfl (by decide)
    have e60 : gq 60 = .bool true := hd ⟨16, .data⟩ (by simp) rfl (by decide)
    go_simp
  refine OpsG.cons (OpG.val rfl rfl (fun gq w' ho hd => trivial) (fun gq w' hb ho hd => ?_)) ?_
  · have e61 : gq 61 = .bool true := hd ⟨17, .data⟩ (by simp) rfl (by decide)
    go_simp
  refine OpsG.cons (OpG.val rfl rfl (fun gq w' ho hd => ⟨_, rfl, hd ⟨18, .guard⟩ (by simp) rfl (by decide)⟩) (fun gq w' hb ho hd => ?_)) ?_
  · have e2 := ho 2 rfl
    obtain ⟨p0, p1, p2, p3, p4, p5, p6⟩ := (hbo7.out.below hb hbl7).cells
    go_simp
  refine OpsG.cons (OpG.one (d := 64) (p := (fun v w' => StateV w' w'.heap.size v busyS)) rfl rfl (fun v w1 w2 h hb => h.grow hb) (fun gq w' ho hd => ⟨_, rfl, hd ⟨18, .guard⟩ (by simp) rfl (by decide)⟩) (fun gq w' hb ho hd => ?_)) ?_
  · unfold OpRel
    go_simp
    refine (lBusy w').mono ?_
    rintro e w2 ⟨V, rfl, ho, hb2⟩
    exact ⟨_, rfl, ho.view0 (by decide), hb2⟩
  refine OpsG.cons (OpG.one (d := 65) (p := (fun v w' => v = .bool true)) rfl rfl (fun v w1 w2 h hb => h) (fun gq w' ho hd => ⟨_, rfl, hd ⟨18, .guard⟩ (by simp) rfl (by decide)⟩) (fun gq w' hb ho hd => ?_)) ?_
  · have e63 : gq 63 = .agg #[Vw5.on, Vw5.orders, Vw5.holds, Vw5.moves, Vw5.inn, Vw5.out, Vw5.fixed] := hd ⟨19, .data⟩ (by simp) rfl (by decide)
    have e64 : StateV w' w'.heap.size (gq 64) busyS := hd ⟨20, .data⟩ (by simp) rfl (by decide)
    have h1 := hvo7.out.grow hb
    unfold OpRel
    go_simp
    refine (rSameStates w' _ _ _ h1 e64).mono ?_
    rintro e w2 ⟨rfl, hb2⟩
    exact ⟨_, rfl, rfl, hb2⟩
  refine OpsG.cons (OpG.val rfl rfl (fun gq w' ho hd => trivial) (fun gq w' hb ho hd => ?_)) ?_
  · have e62 : gq 62 = .bool true := hd ⟨18, .data⟩ (by simp) rfl (by decide)
    have e65 : (gq 65) = .bool true := hd ⟨21, .data⟩ (by simp) rfl (by decide)
    go_simp
  exact OpsG.nil
  obtain ⟨r44, r45, r46, r47, r48, r49, r50, r51, r52, r53, r54, r55, r56, r57, r58, r59, r60, r61, r62, r63, r64, r65, r66, _⟩ := hR
  replace r64 : StateV w2 w2.heap.size (f 64) busyS := r64
  replace r65 : (f 65) = .bool true := r65
  simp only [fillA, fillT, List.take_succ_cons, List.take_zero, List.drop_succ_cons, List.drop_zero, List.filterMap_cons, List.filterMap_nil, List.foldl_cons, List.foldl_nil, List.setIfInBounds_toArray, List.set_cons_zero, List.set_cons_succ, r44, r45, r46, r47, r48, r49, r50, r51, r52, r53, r54, r55, r56, r57, r58, r59, r60, r61, r62, r63, r65, r66]
  clear r44 r45 r46 r47 r48 r49 r50 r51 r52 r53 r54 r55 r56 r57 r58 r59 r60 r61 r62 r63 r65 r66
  go_wp2_with fail
  go_ret
  exact ⟨rfl, hb7.trans (hb2.mono hb7.size)⟩

set_option maxHeartbeats 4000000 in
set_option maxRecDepth 100000 in
theorem allocTakesWalk (w : World) (v vs : Value) (p : Plan) (s : State) (o k n but : Int) (hp : PlanV w w.heap.size v p) (hv : StateV w w.heap.size vs s) :
    Calls Try.prog 11 #[v, vs, .int .i64 o, .int .i64 k, .int .i64 n, .int .i64 but] w fun e w' => e = .returned (.bool true) ∧ Below w.heap.size w w' := by
  obtain ⟨Ab, cb, As, cs, rfl, hP', hBn, hSz, hlb, hls⟩ := openPl hp
  obtain ⟨A0, c0, A1, c1, A2, c2, A3, c3, A4, c4, A5, c5, A6, c6, rfl, hV, hN, hO, hH, hM, hI, hU, hX, hl0, hl1, hl2, hl3, hl4, hl5, hl6⟩ := openOne hv
  go_enter Try.func11, Try.ntmps11
  go_wp2_with fail
  obtain ⟨W0, hW0, hb0, hsz0, hsz1, hsE, hK⟩ := boxesTwo w p s Ab cb As cs A0 c0 A1 c1 A2 c2 A3 c3 A4 c4 A5 c5 A6 c6
  rw [hW0]
  clear hW0
  obtain ⟨⟨y0, y1⟩, x0, x1, x2, x3, x4, x5, x6, hbz0, hbz1⟩ := hK.out W0 (Below.refl W0.heap.size W0)
  go_wp2_with fail
  clear y0 y1 x0 x1 x2 x3 x4 x5 x6 hbz0 hbz1
  refine (alTake _ _ _ p s o k n but (hP'.out _ hb0) (hV.out _ hb0) ).mono ?_
  rintro e W1 ⟨V1, rfl, ho1, hb1⟩
  have hone2 := (ho1).one
  have hnb2 := newBox (W1)
  go_wp2_with (refine wpList_store_state rfl (.tmp 13) (.tmp 27) rfl rfl (World.heap (W1)).size nilSV V1 hnb2 rfl rfl hone2 (fun w2 hbox2 hg2 => ?_); refine Hid.out ?_)
  unfold Hid
  have hbb2 := newBelow hg2
  have hbl2 := hbox2.lt
  clear hone2 hnb2 hg2
  have hb02 := hb1.trans (hbb2.mono hb1.size)
  have hB2 := hb0.trans (hb02.mono hb0.size)
  have hv1 := Lib.hid ((ho1.below hbb2).view0 (take_small p s o k n but))
  have hbox2' := Lib.hid hbox2
  clear hbox2 ho1 hb1 hbb2
  obtain ⟨⟨y0, y1⟩, x0, x1, x2, x3, x4, x5, x6, hbz0, hbz1⟩ := hK.out w2 (hb02)
  go_wp2_with fail
  clear y0 y1 x0 x1 x2 x3 x4 x5 x6 hbz0 hbz1
  refine (rTakeOf _ _ _ p s o k n but (hP'.out _ hB2) (hV.out _ hB2) ).mono ?_
  rintro e W3 ⟨V3, rfl, ho3, hb3⟩
  have hone4 := (ho3).one
  have hnb4 := newBox (W3)
  go_wp2_with (refine wpList_store_state rfl (.tmp 16) (.tmp 38) rfl rfl (World.heap (W3)).size nilSV V3 hnb4 rfl rfl hone4 (fun w4 hbox4 hg4 => ?_); refine Hid.out ?_)
  unfold Hid
  have hbb4 := newBelow hg4
  have hbl4 := hbox4.lt
  clear hone4 hnb4 hg4
  have h24 := hb3.trans (hbb4.mono hb3.size)
  have h04 := hb02.trans (h24.mono hb02.size)
  have hB4 := hb0.trans (h04.mono hb0.size)
  have hv3 := Lib.hid ((ho3.below hbb4).view0 (take_small p s o k n but))
  have hv1' := Lib.hid (hv1.out.grow h24)
  have hbox4' := Lib.hid hbox4
  have hbox2'' := Lib.hid (hbox2'.out.below h24 hbl2)
  have hbl2' := Nat.lt_of_lt_of_le hbl2 h24.size
  clear hbox4 ho3 hb3 hbb4 hbox2' hv1 hb02 hB2 hbl2
  go_wp2_with fail
  refine (allocBegun _).mono ?_
  rintro e W5 ⟨rfl, h5⟩
  have hB5 := hB4.trans (h5.mono hB4.size)
  obtain ⟨p0, p1, p2, p3, p4, p5, p6⟩ := (hbox2''.out.below h5 hbl2').cells
  obtain ⟨q0, q1, q2, q3, q4, q5, q6⟩ := (hbox4'.out.below h5 hbl4).cells
  have hx1 := hv1'.out.grow h5
  have hx2 := hv3.out.grow h5
  go_wp2_with fail
  clear p0 p1 p2 p3 p4 p5 p6 q0 q1 q2 q3 q4 q5 q6
  refine (rSameStates _ _ _ _ hx1 hx2).mono ?_
  rintro e W6 ⟨rfl, h6⟩
  go_wp2_with fail
  go_ret
  exact ⟨rfl, hB5.trans (h6.mono hB5.size)⟩
end Wh
namespace Wh
open Go Go.RowKit Go.Shelf Go.Proofs
attribute [local go_sem] run_indexAt_letter evL_tmp evL_const evL_func

theorem takeS_more {p : Plan} {s : State} {i j : Nat} {n m but : Int} (hc : checkState p s = 0) (hm : May s i j n) (h0 : 0 ≤ m) (h1 : m ≤ n) : checkState p (takeS p s i j m but).1 = 0 ∧ May (takeS p s i j m but).1 i j (n - m) := by
  have hm1 : May s i j m := ⟨hm.ho, hm.hk, hm.kind, h0, by have := hm.back; omega⟩
  obtain ⟨h2, h3, h4⟩ := takeS_held (but := but) (right_of_check hc) hm1
  refine ⟨h2.check hc, by rw [h2.orders]; exact hm.ho, by rw [h2.lines]; exact hm.hk, by rw [h2.kind]; exact hm.kind, by omega, ?_⟩
  rw [h2.back, if_pos ⟨rfl, rfl⟩]
  have := hm.back
  omega
theorem take_ok {p : Plan} {s : State} {i j : Nat} {n but : Int} (hc : checkState p s = 0) (hm : May s i j n) (hn : n ≤ 200) (hb : -1 ≤ but ∧ but < p.bins.length) : take p s i j n but = ((takeS p s i j n but).1, (takeS p s i j n but).2, 0) := by
  rw [take_in hc hm.ho hm.hk ⟨hm.n0, hn⟩ hb, if_neg (fun h => h hm.kind), if_neg (by have := hm.back; omega)]
/-- What the law asks of a holding that went. -/
theorem alloc_true {p : Plan} {s x : State} {o k n but l : Int} (h : take p s o k n but = (x, l, 0)) : ∃ i j N : Nat, o = i ∧ k = j ∧ n = N ∧ N ≤ 200 ∧ i < s.orders.length ∧ j < (orderAt s.orders i).lines.length ∧
    checkState p s = 0 ∧ checkState p x = 0 ∧ x.on = s.on ∧ (0 ≤ l ∧ l ≤ n) ∧ isGood p (lineAt (orderAt s.orders i).lines j).good = true ∧ (0 < l → ∀ b : Nat, b < p.bins.length → (b : Int) ≠ but → avail x b (lineAt (orderAt s.orders i).lines j).good = 0) ∧
    ∀ m : Nat, m ≤ N → ∃ y lm, take p s i j m but = (y, lm, 0) ∧ take p y i j (n - m) but = (x, l - lm, 0) ∧ checkState p y = 0 ∧ 0 ≤ lm ∧ lm ≤ 200 := by
  have h0 : (take p s o k n but).2.2 = 0 := by rw [h]
  obtain ⟨hc, i, j, rfl, rfl, hm, hn, hb, e⟩ := take_right h0
  rw [h] at e
  simp only [Prod.mk.injEq, and_true] at e
  obtain ⟨rfl, rfl⟩ := e
  have hr := right_of_check hc
  obtain ⟨h2, h3, h4⟩ := takeS_held (but := but) hr hm
  obtain ⟨N, rfl⟩ : ∃ N : Nat, n = N := ⟨n.toNat, by have := hm.n0; omega⟩
  refine ⟨i, j, N, rfl, rfl, rfl, by omega, hm.ho, hm.hk, hc, h2.check hc, h2.on, ⟨h3, h4⟩, isGood_iff.2 (hr.sane.line hm.ho hm.hk).1, fun hl b hbn hne => takeS_left hr hm hl hbn hne, fun m hmn => ?_⟩
  have hm1 : May s i j m := ⟨hm.ho, hm.hk, hm.kind, by omega, by have := hm.back; omega⟩
  obtain ⟨h5, h6⟩ := takeS_more (but := but) hc hm (m := m) (by omega) (by omega)
  obtain ⟨h7, h8, h9⟩ := takeS_held (but := but) hr hm1
  refine ⟨_, _, take_ok hc hm1 (by omega) hb, ?_, h5, h8, by omega⟩
  rw [take_ok h5 h6 (by omega) hb]
  have h10 := takeS_split (but := but) hr (n := m) (m := N - m) (by rw [show (m : Int) + (N - m) = N by omega]; exact hm) (by omega) (by omega)
  rw [show (m : Int) + (N - m) = N by omega] at h10
  rw [h10]

theorem alTakeAt {p : Plan} {s x : State} {o k n but l c : Int} (h : take p s o k n but = (x, l, c)) (w : World) (v vs : Value) (hp : PlanV w w.heap.size v p) (hv : StateV w w.heap.size vs s) :
    Calls Try.prog 39 #[v, vs, .int .i64 o, .int .i64 k, .int .i64 n, .int .i64 but] w fun e w' => ∃ V : SV, e = .returned (.tuple #[V.val, .int .i64 l, .int .i64 c]) ∧ OwnSt w' w.heap.size V x ∧ Below w.heap.size w w' := by
  have := alTake w v vs p s o k n but hp hv
  rw [h] at this
  exact this
theorem lChoose1 (w : World) (c : Int) (n : Nat) (hn2 : n ≤ 100000000) (hc : -9223372036854775808 ≤ c ∧ c ≤ 9223372036854775807) :
    Calls Try.prog 32 #[.int .i64 c, .int .i64 ((n : Int) + 1)] w fun e w' => e = .returned (.int .i64 (chosen c (n + 1))) ∧ w = w' := by
  have := lChoose w c (n + 1) (by omega) (by omega) hc
  rwa [show ((n + 1 : Nat) : Int) = (n : Int) + 1 by omega] at this
theorem StateV.onV {w : World} {B : Nat} {V : SV} {s : State} (h : StateV w B V.val s) : SlSl cInt w B V.on s.on := by
  obtain ⟨v0, v1, v2, v3, v4, v5, v6, e, h0, _⟩ := h
  unfold SV.val at e
  injection e with e
  simp only [Array.mk.injEq, List.cons.injEq, and_true] at e
  rw [e.1]
  exact h0
theorem rSameRowsAt (w : World) (va vb : Value) (a : List (List Int)) (ha : SlSl cInt w w.heap.size va a) (hb : SlSl cInt w w.heap.size vb a) :
    Calls Try.prog 42 #[va, vb] w fun e w' => e = .returned (.bool true) ∧ Below w.heap.size w w' := by
  have := rSameRows w va vb a a ha hb
  rwa [decide_eq_true (rfl : a = a)] at this

set_option maxHeartbeats 20000000 in
set_option maxRecDepth 100000 in
theorem allocTrueWalk (w : World) (v vs : Value) (p : Plan) (s : State) (o k n but pt : Int) (hp : PlanV w w.heap.size v p) (hv : StateV w w.heap.size vs s) (hpt : -9223372036854775808 ≤ pt ∧ pt ≤ 9223372036854775807) :
    Calls Try.prog 12 #[v, vs, .int .i64 o, .int .i64 k, .int .i64 n, .int .i64 but, .int .i64 pt] w fun e w' => e = .returned (.bool true) ∧ Below w.heap.size w w' := by
  have hpt' := Lib.hid hpt
  clear hpt
  obtain ⟨x, l, c, hT⟩ : ∃ x l c, take p s o k n but = (x, l, c) := ⟨_, _, _, rfl⟩
  have hT' := Lib.hid hT
  have hsm := Lib.hid (show small x = true by have := take_small p s o k n but; rwa [hT] at this)
  by_cases hc : c = 0
  · subst hc
    obtain ⟨i, j, N, rfl, rfl, rfl, hN, hi, hj, hcs, hcx, hxon, hl, hgd, hlf, hmm⟩ := alloc_true hT
    have hcx' := Lib.hid hcx
    have hcs' := Lib.hid hcs
    have hxon' := Lib.hid hxon
    have hgd' := Lib.hid hgd
    have hlf' := Lib.hid hlf
    have hmm' := Lib.hid hmm
    have hN' := Lib.hid hN
    have hl0 : ¬ l < 0 := by omega
    have hl1 : ¬ (N : Int) < l := by omega
    have hi' : (i : Int) < s.orders.length := by omega
    have hj' : (j : Int) < (orderAt s.orders i).lines.length := by omega
    have hl' := Lib.hid hl
    have z1 : decide (l < 0) = false := decide_eq_false hl0
    have z2 : decide ((N : Int) < l) = false := decide_eq_false hl1
    have z3 : decide ((i : Int) < 0) = false := decide_eq_false (by omega)
    have z4 : decide (s.orders.length ≤ i) = false := decide_eq_false (by omega)
    have z5 : decide ((j : Int) < 0) = false := decide_eq_false (by omega)
    have z6 : decide ((orderAt s.orders i).lines.length ≤ j) = false := decide_eq_false (by omega)
    clear hT hcx hcs hxon hgd hlf hmm hN hl hl0 hl1
    obtain ⟨Ab, cb, As, cs, rfl, hP', hBn, hSz, hlb, hls⟩ := openPl hp
    obtain ⟨A0, c0, A1, c1, A2, c2, A3, c3, A4, c4, A5, c5, A6, c6, rfl, hV, hN, hO, hH, hM, hI, hU, hX, hl0, hl1, hl2, hl3, hl4, hl5, hl6⟩ := openOne hv
    go_enter Try.func12, Try.ntmps12
    go_wp2_with fail
    obtain ⟨W0, hW0, hb0, hsz0, hsz1, hsE, hK⟩ := boxesTwo w p s Ab cb As cs A0 c0 A1 c1 A2 c2 A3 c3 A4 c4 A5 c5 A6 c6
    rw [hW0]
    clear hW0
    obtain ⟨⟨y0, y1⟩, x0, x1, x2, x3, x4, x5, x6, hbz0, hbz1⟩ := hK.out W0 (Below.refl W0.heap.size W0)
    go_wp2_with fail
    clear y0 y1 x0 x1 x2 x3 x4 x5 x6 hbz0 hbz1
    refine (alTakeAt hT'.out _ _ _ (hP'.out _ hb0) (hV.out _ hb0)).mono ?_
    rintro e W1 ⟨V1, rfl, ho1, hb1⟩
    have hone2 := (ho1).one
    have hnb2 := newBox (W1)
    go_wp2_with (refine wpList_store_state rfl (.tmp 15) (.tmp 37) rfl rfl (World.heap (W1)).size nilSV V1 hnb2 rfl rfl hone2 (fun w2 hbox2 hg2 => ?_); refine Hid.out ?_)
    unfold Hid
    have hbb2 := newBelow hg2
    have hbl2 := hbox2.lt
    clear hone2 hnb2 hg2
    have hb02 := hb1.trans (hbb2.mono hb1.size)
    have hB2 := hb0.trans (hb02.mono hb0.size)
    have hv2 := Lib.hid ((ho1.below hbb2).view0 hsm.out)
    have hbox2' := Lib.hid hbox2
    clear hbox2 ho1 hb1 hbb2
    obtain ⟨⟨y0, y1⟩, x0, x1, x2, x3, x4, x5, x6, hbz0, hbz1⟩ := hK.out w2 (hb02)
    obtain ⟨p0, p1, p2, p3, p4, p5, p6⟩ := hbox2'.out.cells
    go_wp2_with fail
    clear y0 y1 x0 x1 x2 x3 x4 x5 x6 hbz0 hbz1
    clear p0 p1 p2 p3 p4 p5 p6
    refine (sCheckAt _ _ _ (hP'.out _ hB2) hv2.out hcx'.out).mono ?_
    rintro e W3 ⟨rfl, h3⟩
    have h03 := hb02.trans (h3.mono hb02.size)
    have hB3 := hb0.trans (h03.mono hb0.size)
    obtain ⟨⟨y0, y1⟩, x0, x1, x2, x3, x4, x5, x6, hbz0, hbz1⟩ := hK.out W3 (h03)
    obtain ⟨p0, p1, p2, p3, p4, p5, p6⟩ := (hbox2'.out.below h3 hbl2).cells
    have hon3 := Lib.hid (show SlSl cInt W3 W3.heap.size V1.on s.on by rw [← hxon'.out]; exact (hv2.out.grow h3).onV)
    go_wp2_with fail
    clear y0 y1 x0 x1 x2 x3 x4 x5 x6 hbz0 hbz1
    clear p0 p1 p2 p3 p4 p5 p6
    refine (rSameRowsAt _ _ _ _ hon3.out (hN.out _ hB3)).mono ?_
    rintro e W4 ⟨rfl, h4⟩
    have h24 := h3.trans (h4.mono h3.size)
    have h04 := h03.trans (h4.mono h03.size)
    have hB4 := hb0.trans (h04.mono hb0.size)
    obtain ⟨⟨y0, y1⟩, x0, x1, x2, x3, x4, x5, x6, hbz0, hbz1⟩ := hK.out W4 (h04)
    obtain ⟨Al, cl, ol, ll, d0, d1, hsl⟩ := (hO.out W4 hB4).order hi
    obtain ⟨ok2, l2, e0, e1, e2, e3⟩ := hsl.at_.line hj
    clear hon3 h3 h03 hB3 h4
    go_wp2_with fail
    clear y0 y1 x0 x1 x2 x3 x4 x5 x6 hbz0 hbz1
    clear d0 d1 e0 e1 e2 e3 hsl ok2 ol
    generalize (lineAt (orderAt s.orders i).lines j).good = gd at hgd' hlf' ⊢
    have hwN : IntKind.i64.wrap ((N : Int) + 1) = (N : Int) + 1 := IntWalk.i64_in _ (by have := hN'.out; omega)
    clear hi' hj' ll l2 hi hj z1 z2 z3 z4 z5 z6
    go_loopw [19, 20, 21] (fun b _ _ wr => ∃ q : Nat, q ≤ p.bins.length ∧ b = .int .i64 q ∧ Below w2.heap.size w2 wr) (fun b _ _ _ => p.bins.length - (intOf b).toNat)
    case atStart => exact ⟨0, Nat.zero_le _, rfl, h24⟩
    case round =>
      clear h24 h04 hB4
      obtain ⟨q, hq, rfl, h24⟩ := hrel
      have h04 := hb02.trans (h24.mono hb02.size)
      have hB4 := hb0.trans (h04.mono hb0.size)
      obtain ⟨⟨y0, y1⟩, x0, x1, x2, x3, x4, x5, x6, hbz0, hbz1⟩ := hK.out wr (h04)
      by_cases hq1 : q < p.bins.length
      · have hq' : (q : Int) < (p.bins.length : Int) := by omega
        by_cases hlp : 0 < l
        · have hA := Lib.hid (availE_ok (b := q) (g := gd) hcx'.out (isBin_iff.2 (by omega)) hgd'.out)
          obtain ⟨p0, p1, p2, p3, p4, p5, p6⟩ := (hbox2'.out.below h24 hbl2).cells
          go_wp2_with fail
          clear y0 y1 x0 x1 x2 x3 x4 x5 x6 hbz0 hbz1
          clear p0 p1 p2 p3 p4 p5 p6
          refine (sAvailAt _ _ _ (hP'.out _ hB4) (hv2.out.grow h24) hA.out).mono ?_
          rintro e W5 ⟨rfl, h5⟩
          have h25 := h24.trans (h5.mono h24.size)
          by_cases hbut : (q : Int) = but
          · have hqb : ((q : Int) != but) = false := by simpa using hbut
            clear hbut
            go_wp2_with fail
            go_roundw
            case rel => exact ⟨q + 1, by omega, by go_num, h25⟩
            case measure => simp [intOf]; omega
          · have hav := hlf'.out hlp q hq1 hbut
            have hqb : ((q : Int) != but) = true := by simpa using hbut
            rw [hav]
            clear hbut hav
            go_wp2_with fail
            go_roundw
            case rel => exact ⟨q + 1, by omega, by go_num, h25⟩
            case measure => simp [intOf]; omega
        · go_wp2_with fail
          clear y0 y1 x0 x1 x2 x3 x4 x5 x6 hbz0 hbz1
          refine (lChoose1 _ pt N (by have := hN'.out; omega) hpt'.out).mono ?_
          rintro e w' ⟨rfl, rfl⟩
          have hmN : chosen pt (N + 1) ≤ N := by
            have := chosen_lt pt (n := N + 1) (by omega)
            omega
          obtain ⟨y, lm, hT1, hT2, hcy, hlm0, hlm1⟩ := hmm'.out (chosen pt (N + 1)) hmN
          generalize chosen pt (N + 1) = m at hT1 hT2 hmN ⊢
          have hT1' := Lib.hid hT1
          have hT2' := Lib.hid hT2
          have hcy' := Lib.hid hcy
          have hw1 : IntKind.i64.wrap ((N : Int) - m) = (N : Int) - m := IntWalk.i64_in _ (by have := hN'.out; omega)
          have hw2 : IntKind.i64.wrap (lm + (l - lm)) = l := by
            rw [show lm + (l - lm) = l by omega]
            exact IntWalk.i64_in _ (by have := hN'.out; have := hl'.out; omega)
          have hw1' := Lib.hid hw1
          have hw2' := Lib.hid hw2
          clear hT1 hT2 hcy hlm0 hlm1 hmN hw1 hw2
          obtain ⟨⟨y0, y1⟩, x0, x1, x2, x3, x4, x5, x6, hbz0, hbz1⟩ := hK.out wr (h04)
          go_wp2_with fail
          clear y0 y1 x0 x1 x2 x3 x4 x5 x6 hbz0 hbz1
          refine (alTakeAt hT1'.out _ _ _ (hP'.out _ hB4) (hV.out _ hB4)).mono ?_
          rintro e W6 ⟨V6, rfl, ho6, hb6⟩
          have hone7 := (ho6).one
          have hnb7 := newBox (W6)
          go_wp2_with (refine wpList_store_state rfl (.tmp 23) (.tmp 142) rfl rfl (World.heap (W6)).size nilSV V6 hnb7 rfl rfl hone7 (fun w7 hbox7 hg7 => ?_); refine Hid.out ?_)
          unfold Hid
          have hbb7 := newBelow hg7
          have hbl7 := hbox7.lt
          clear hone7 hnb7 hg7
          have h47 := hb6.trans (hbb7.mono hb6.size)
          have h27 := h24.trans (h47.mono h24.size)
          have h07 := hb02.trans (h27.mono hb02.size)
          have hB7 := hb0.trans (h07.mono hb0.size)
          have hv7 := Lib.hid ((ho6.below hbb7).view0 (check_small hcy'.out))
          obtain ⟨p0, p1, p2, p3, p4, p5, p6⟩ := hbox7.cells
          have hw1 := hw1'.out
          clear hbox7 ho6 hb6 hbb7 h47
          obtain ⟨⟨y0, y1⟩, x0, x1, x2, x3, x4, x5, x6, hbz0, hbz1⟩ := hK.out w7 (h07)
          go_wp2_with fail
          clear y0 y1 x0 x1 x2 x3 x4 x5 x6 hbz0 hbz1
          clear p0 p1 p2 p3 p4 p5 p6 hw1
          refine (alTakeAt hT2'.out _ _ _ (hP'.out _ hB7) hv7.out).mono ?_
          rintro e W8 ⟨V8, rfl, ho8, hb8⟩
          have hone9 := (ho8).one
          have hnb9 := newBox (W8)
          go_wp2_with (refine wpList_store_state rfl (.tmp 26) (.tmp 155) rfl rfl (World.heap (W8)).size nilSV V8 hnb9 rfl rfl hone9 (fun w9 hbox9 hg9 => ?_); refine Hid.out ?_)
          unfold Hid
          have hbb9 := newBelow hg9
          have hbl9 := hbox9.lt
          clear hone9 hnb9 hg9
          have h79 := hb8.trans (hbb9.mono hb8.size)
          have h29 := h27.trans (h79.mono h27.size)
          have h09 := hb02.trans (h29.mono hb02.size)
          have hB9 := hb0.trans (h09.mono hb0.size)
          have hv9 := Lib.hid ((ho8.below hbb9).view0 hsm.out)
          have hbox9' := Lib.hid hbox9
          clear hbox9 ho8 hb8 hbb9 h79
          go_wp2_with fail
          refine (allocBegun _).mono ?_
          rintro e W10 ⟨rfl, h10⟩
          have h2a := h29.trans (h10.mono h29.size)
          have hBa := hB9.trans (h10.mono hB9.size)
          obtain ⟨p0, p1, p2, p3, p4, p5, p6⟩ := (hbox2'.out.below h2a hbl2).cells
          obtain ⟨q0, q1, q2, q3, q4, q5, q6⟩ := (hbox9'.out.below h10 hbl9).cells
          have hw2 := hw2'.out
          have hx1 := Lib.hid (hv9.out.grow h10)
          have hx2 := Lib.hid (hv2.out.grow h2a)
          go_wp2_with fail
          clear p0 p1 p2 p3 p4 p5 p6 q0 q1 q2 q3 q4 q5 q6 hw2
          refine (rSameStates _ _ _ _ hx1.out hx2.out).mono ?_
          rintro e W11 ⟨rfl, h11⟩
          go_wp2_with fail
          go_ret
          exact ⟨rfl, hBa.trans (h11.mono hBa.size)⟩
      · obtain rfl : q = p.bins.length := by omega
        go_wp2_with fail
        clear y0 y1 x0 x1 x2 x3 x4 x5 x6 hbz0 hbz1
        refine (lChoose1 _ pt N (by have := hN'.out; omega) hpt'.out).mono ?_
        rintro e w' ⟨rfl, rfl⟩
        have hmN : chosen pt (N + 1) ≤ N := by
          have := chosen_lt pt (n := N + 1) (by omega)
          omega
        obtain ⟨y, lm, hT1, hT2, hcy, hlm0, hlm1⟩ := hmm'.out (chosen pt (N + 1)) hmN
        generalize chosen pt (N + 1) = m at hT1 hT2 hmN ⊢
        have hT1' := Lib.hid hT1
        have hT2' := Lib.hid hT2
        have hcy' := Lib.hid hcy
        have hw1 : IntKind.i64.wrap ((N : Int) - m) = (N : Int) - m := IntWalk.i64_in _ (by have := hN'.out; omega)
        have hw2 : IntKind.i64.wrap (lm + (l - lm)) = l := by
          rw [show lm + (l - lm) = l by omega]
          exact IntWalk.i64_in _ (by have := hN'.out; have := hl'.out; omega)
        have hw1' := Lib.hid hw1
        have hw2' := Lib.hid hw2
        clear hT1 hT2 hcy hlm0 hlm1 hmN hw1 hw2
        obtain ⟨⟨y0, y1⟩, x0, x1, x2, x3, x4, x5, x6, hbz0, hbz1⟩ := hK.out wr (h04)
        go_wp2_with fail
        clear y0 y1 x0 x1 x2 x3 x4 x5 x6 hbz0 hbz1
        refine (alTakeAt hT1'.out _ _ _ (hP'.out _ hB4) (hV.out _ hB4)).mono ?_
        rintro e W6 ⟨V6, rfl, ho6, hb6⟩
        have hone7 := (ho6).one
        have hnb7 := newBox (W6)
        go_wp2_with (refine wpList_store_state rfl (.tmp 23) (.tmp 142) rfl rfl (World.heap (W6)).size nilSV V6 hnb7 rfl rfl hone7 (fun w7 hbox7 hg7 => ?_); refine Hid.out ?_)
        unfold Hid
        have hbb7 := newBelow hg7
        have hbl7 := hbox7.lt
        clear hone7 hnb7 hg7
        have h47 := hb6.trans (hbb7.mono hb6.size)
        have h27 := h24.trans (h47.mono h24.size)
        have h07 := hb02.trans (h27.mono hb02.size)
        have hB7 := hb0.trans (h07.mono hb0.size)
        have hv7 := Lib.hid ((ho6.below hbb7).view0 (check_small hcy'.out))
        obtain ⟨p0, p1, p2, p3, p4, p5, p6⟩ := hbox7.cells
        have hw1 := hw1'.out
        clear hbox7 ho6 hb6 hbb7 h47
        obtain ⟨⟨y0, y1⟩, x0, x1, x2, x3, x4, x5, x6, hbz0, hbz1⟩ := hK.out w7 (h07)
        go_wp2_with fail
        clear y0 y1 x0 x1 x2 x3 x4 x5 x6 hbz0 hbz1
        clear p0 p1 p2 p3 p4 p5 p6 hw1
        refine (alTakeAt hT2'.out _ _ _ (hP'.out _ hB7) hv7.out).mono ?_
        rintro e W8 ⟨V8, rfl, ho8, hb8⟩
        have hone9 := (ho8).one
        have hnb9 := newBox (W8)
        go_wp2_with (refine wpList_store_state rfl (.tmp 26) (.tmp 155) rfl rfl (World.heap (W8)).size nilSV V8 hnb9 rfl rfl hone9 (fun w9 hbox9 hg9 => ?_); refine Hid.out ?_)
        unfold Hid
        have hbb9 := newBelow hg9
        have hbl9 := hbox9.lt
        clear hone9 hnb9 hg9
        have h79 := hb8.trans (hbb9.mono hb8.size)
        have h29 := h27.trans (h79.mono h27.size)
        have h09 := hb02.trans (h29.mono hb02.size)
        have hB9 := hb0.trans (h09.mono hb0.size)
        have hv9 := Lib.hid ((ho8.below hbb9).view0 hsm.out)
        have hbox9' := Lib.hid hbox9
        clear hbox9 ho8 hb8 hbb9 h79
        go_wp2_with fail
        refine (allocBegun _).mono ?_
        rintro e W10 ⟨rfl, h10⟩
        have h2a := h29.trans (h10.mono h29.size)
        have hBa := hB9.trans (h10.mono hB9.size)
        obtain ⟨p0, p1, p2, p3, p4, p5, p6⟩ := (hbox2'.out.below h2a hbl2).cells
        obtain ⟨q0, q1, q2, q3, q4, q5, q6⟩ := (hbox9'.out.below h10 hbl9).cells
        have hw2 := hw2'.out
        have hx1 := Lib.hid (hv9.out.grow h10)
        have hx2 := Lib.hid (hv2.out.grow h2a)
        go_wp2_with fail
        clear p0 p1 p2 p3 p4 p5 p6 q0 q1 q2 q3 q4 q5 q6 hw2
        refine (rSameStates _ _ _ _ hx1.out hx2.out).mono ?_
        rintro e W11 ⟨rfl, h11⟩
        go_wp2_with fail
        go_ret
        exact ⟨rfl, hBa.trans (h11.mono hBa.size)⟩
  · have hne : (c != 0) = true := by simpa using hc
    clear hc hT
    obtain ⟨Ab, cb, As, cs, rfl, hP', hBn, hSz, hlb, hls⟩ := openPl hp
    obtain ⟨A0, c0, A1, c1, A2, c2, A3, c3, A4, c4, A5, c5, A6, c6, rfl, hV, hN, hO, hH, hM, hI, hU, hX, hl0, hl1, hl2, hl3, hl4, hl5, hl6⟩ := openOne hv
    go_enter Try.func12, Try.ntmps12
    go_wp2_with fail
    obtain ⟨W0, hW0, hb0, hsz0, hsz1, hsE, hK⟩ := boxesTwo w p s Ab cb As cs A0 c0 A1 c1 A2 c2 A3 c3 A4 c4 A5 c5 A6 c6
    rw [hW0]
    clear hW0
    obtain ⟨⟨y0, y1⟩, x0, x1, x2, x3, x4, x5, x6, hbz0, hbz1⟩ := hK.out W0 (Below.refl W0.heap.size W0)
    go_wp2_with fail
    clear y0 y1 x0 x1 x2 x3 x4 x5 x6 hbz0 hbz1
    refine (alTakeAt hT'.out _ _ _ (hP'.out _ hb0) (hV.out _ hb0)).mono ?_
    rintro e W1 ⟨V1, rfl, ho1, hb1⟩
    have hone2 := (ho1).one
    have hnb2 := newBox (W1)
    go_wp2_with (refine wpList_store_state rfl (.tmp 15) (.tmp 37) rfl rfl (World.heap (W1)).size nilSV V1 hnb2 rfl rfl hone2 (fun w2 hbox2 hg2 => ?_); refine Hid.out ?_)
    unfold Hid
    have hbb2 := newBelow hg2
    have hbl2 := hbox2.lt
    clear hone2 hnb2 hg2
    have hB2 := hb0.trans ((hb1.trans (hbb2.mono hb1.size)).mono hb0.size)
    clear hbox2 ho1 hb1 hbb2
    go_wp2_with fail
    refine (allocBegun _).mono ?_
    rintro e W9 ⟨rfl, h9⟩
    go_wp2_with fail
    go_ret
    exact ⟨rfl, hB2.trans (h9.mono hB2.size)⟩
end Wh
namespace Wh
open Go Go.RowKit Go.Shelf Go.Proofs
attribute [local go_sem] run_indexAt_letter evL_tmp evL_const evL_func

def leftTo (p : Plan) (x : State) (g : Int) (q : Nat) : Int := sumTo (fun b => if (binAt p.bins b).front = true then avail x b g else 0) q
def moreTo (p : Plan) (s x : State) (g : Int) (q : Nat) : Int := sumTo (fun b => if (binAt p.bins b).front = true then 0 else avail s b g - avail x b g) q
theorem alloc_front {p : Plan} {s x : State} {o k n l : Int} (h : take p s o k n (-1) = (x, l, 0)) : ∃ i j : Nat, o = i ∧ k = j ∧ i < s.orders.length ∧ j < (orderAt s.orders i).lines.length ∧ checkState p s = 0 ∧ checkState p x = 0 ∧
    isGood p (lineAt (orderAt s.orders i).lines j).good = true ∧ (∀ b : Nat, b < p.bins.length → 0 ≤ avail x b (lineAt (orderAt s.orders i).lines j).good ∧ avail x b (lineAt (orderAt s.orders i).lines j).good ≤ avail s b (lineAt (orderAt s.orders i).lines j).good ∧ avail s b (lineAt (orderAt s.orders i).lines j).good ≤ 200) ∧
    (leftTo p x (lineAt (orderAt s.orders i).lines j).good p.bins.length = 0 ∨ moreTo p s x (lineAt (orderAt s.orders i).lines j).good p.bins.length = 0) ∧ ∀ o' k' : Nat, ¬ (o' = i ∧ k' = j) → kept x.holds o' k' = kept s.holds o' k' := by
  have h0 : (take p s o k n (-1)).2.2 = 0 := by rw [h]
  obtain ⟨hc, i, j, rfl, rfl, hm, hn, hb, e⟩ := take_right h0
  rw [h] at e
  simp only [Prod.mk.injEq, and_true] at e
  obtain ⟨rfl, rfl⟩ := e
  have hr := right_of_check hc
  obtain ⟨h2, h3, h4⟩ := takeS_held (but := -1) hr hm
  have hx := h2.check hc
  obtain ⟨e1, e2⟩ := hm.good hr
  refine ⟨i, j, rfl, rfl, hm.ho, hm.hk, hc, hx, isGood_iff.2 (hr.sane.line hm.ho hm.hk).1, fun b hb => ?_, ?_, fun o' k' hne => ?_⟩
  · have a1 := (hr.avail_range hb e2).2
    have a2 := (hr.sane.cell hb e2).2
    have a3 := ((right_of_check hx).avail_range hb e2).1
    have a4 := h2.avail_le b (s.line i j).good
    rw [e1] at a1 a3
    have e0 : (lineAt (orderAt s.orders i).lines j).good = (s.line i j).good := rfl
    rw [e0]
    exact ⟨a3, a4, by omega⟩
  · rcases takeS_front hr hm with hz | hz
    · left
      refine sumTo_zero fun b hb => ?_
      show (if _ then _ else _) = (0 : Int)
      split
      · rename_i hf
        exact hz b hb hf
      · rfl
    · right
      refine sumTo_zero fun b hb => ?_
      show (if _ then _ else _) = (0 : Int)
      split
      · rfl
      · rename_i hf
        have := hz b hb (by simpa [Plan.bin] using hf)
        change avail (takeS p s i j n (-1)).1 b (lineAt (orderAt s.orders i).lines j).good = avail s b (lineAt (orderAt s.orders i).lines j).good at this
        rw [this, Int.sub_self]
  · rw [h2.kept, if_neg (by omega), Int.add_zero]
theorem StateV.holdsV {w : World} {B : Nat} {V : SV} {s : State} (h : StateV w B V.val s) : Sl cHold w B V.holds s.holds := by
  obtain ⟨v0, v1, v2, v3, v4, v5, v6, e, _, _, h0, _⟩ := h
  unfold SV.val at e
  injection e with e
  simp only [Array.mk.injEq, List.cons.injEq, and_true] at e
  rw [e.2.2.1]
  exact h0
theorem hdKeptAt (w : World) (v : Value) (l : List Hold) (o ln : Int) (hok : holdsOk l = true) (hv : Sl cHold w w.heap.size v l) :
    Calls Try.prog 43 #[v, .int .i64 o, .int .i64 ln] w fun e w' => e = .returned (.tuple #[.int .i64 (kept l o ln), .int .i64 0]) ∧ Below w.heap.size w w' := by
  have := hdKept w v l o ln hv
  rwa [keptE_ok hok] at this

set_option maxHeartbeats 8000000 in
set_option maxRecDepth 100000 in
theorem allocFrontWalk (w : World) (v vs : Value) (p : Plan) (s : State) (o k n : Int) (hp : PlanV w w.heap.size v p) (hv : StateV w w.heap.size vs s) :
    Calls Try.prog 13 #[v, vs, .int .i64 o, .int .i64 k, .int .i64 n] w fun e w' => e = .returned (.bool true) ∧ Below w.heap.size w w' := by
  obtain ⟨x, l, c, hT⟩ : ∃ x l c, take p s o k n (-1) = (x, l, c) := ⟨_, _, _, rfl⟩
  have hT' := Lib.hid hT
  have hsm := Lib.hid (show small x = true by have := take_small p s o k n (-1); rwa [hT] at this)
  by_cases hc : c = 0
  · subst hc
    obtain ⟨i, j, rfl, rfl, hi, hj, hcs, hcx, hgd, hav, hlm, hkp⟩ := alloc_front hT
    have hcx' := Lib.hid hcx
    have hcs' := Lib.hid hcs
    have hgd' := Lib.hid hgd
    have hav' := Lib.hid hav
    have hlm' := Lib.hid hlm
    have hkp' := Lib.hid hkp
    have hb6 := (checkState_zero.1 hcs).1.counts.2.1
    have hi' : (i : Int) < s.orders.length := by omega
    have hj' : (j : Int) < (orderAt s.orders i).lines.length := by omega
    have z3 : decide ((i : Int) < 0) = false := decide_eq_false (by omega)
    have z4 : decide (s.orders.length ≤ i) = false := decide_eq_false (by omega)
    have z5 : decide ((j : Int) < 0) = false := decide_eq_false (by omega)
    have z6 : decide ((orderAt s.orders i).lines.length ≤ j) = false := decide_eq_false (by omega)
    clear hT hcx hcs hgd hav hlm hkp
    obtain ⟨Ab, cb, As, cs, rfl, hP', hBn, hSz, hlb, hls⟩ := openPl hp
    obtain ⟨A0, c0, A1, c1, A2, c2, A3, c3, A4, c4, A5, c5, A6, c6, rfl, hV, hN, hO, hH, hM, hI, hU, hX, hl0, hl1, hl2, hl3, hl4, hl5, hl6⟩ := openOne hv
    go_enter Try.func13, Try.ntmps13
    go_wp2_with fail
    obtain ⟨W0, hW0, hb0, hsz0, hsz1, hsE, hK⟩ := boxesTwo w p s Ab cb As cs A0 c0 A1 c1 A2 c2 A3 c3 A4 c4 A5 c5 A6 c6
    rw [hW0]
    clear hW0
    obtain ⟨⟨y0, y1⟩, x0, x1, x2, x3, x4, x5, x6, hbz0, hbz1⟩ := hK.out W0 (Below.refl W0.heap.size W0)
    go_wp2_with fail
    clear y0 y1 x0 x1 x2 x3 x4 x5 x6 hbz0 hbz1
    refine (alTakeAt hT'.out _ _ _ (hP'.out _ hb0) (hV.out _ hb0)).mono ?_
    rintro e W1 ⟨V1, rfl, ho1, hb1⟩
    have hone2 := (ho1).one
    have hnb2 := newBox (W1)
    go_wp2_with (refine wpList_store_state rfl (.tmp 11) (.tmp 35) rfl rfl (World.heap (W1)).size nilSV V1 hnb2 rfl rfl hone2 (fun w2 hbox2 hg2 => ?_); refine Hid.out ?_)
    unfold Hid
    have hbb2 := newBelow hg2
    have hbl2 := hbox2.lt
    clear hone2 hnb2 hg2
    have hb02 := hb1.trans (hbb2.mono hb1.size)
    have hB2 := hb0.trans (hb02.mono hb0.size)
    have hv2 := Lib.hid ((ho1.below hbb2).view0 hsm.out)
    have hbox2' := Lib.hid hbox2
    clear hbox2 ho1 hb1 hbb2
    obtain ⟨⟨y0, y1⟩, x0, x1, x2, x3, x4, x5, x6, hbz0, hbz1⟩ := hK.out w2 (hb02)
    obtain ⟨Al, cl, ol, ll, d0, d1, hsl⟩ := (hO.out w2 hB2).order hi
    obtain ⟨ok2, l2, e0, e1, e2, e3⟩ := hsl.at_.line hj
    go_wp2_with fail
    clear y0 y1 x0 x1 x2 x3 x4 x5 x6 hbz0 hbz1
    clear d0 d1 e0 e1 e2 e3 hsl ok2 ol
    generalize (lineAt (orderAt s.orders i).lines j).good = gd at hgd' hav' hlm' ⊢
    clear hi' hj' ll l2 hj hi z3 z4 z5 z6
    go_loopw [17, 15, 16, 18, 19, 20, 21] (fun b lf mr _ _ _ _ wr => ∃ q : Nat, q ≤ p.bins.length ∧ b = .int .i64 q ∧ lf = .int .i64 (leftTo p x gd q) ∧ mr = .int .i64 (moreTo p s x gd q) ∧ (0 ≤ leftTo p x gd q ∧ leftTo p x gd q ≤ 200 * q) ∧ (0 ≤ moreTo p s x gd q ∧ moreTo p s x gd q ≤ 200 * q) ∧ Below w2.heap.size w2 wr) (fun b _ _ _ _ _ _ _ => p.bins.length - (intOf b).toNat)
    case atStart => exact ⟨0, Nat.zero_le _, rfl, rfl, rfl, ⟨Int.le_refl _, Int.le_refl _⟩, ⟨Int.le_refl _, Int.le_refl _⟩, Below.refl _ _⟩
    case round =>
      obtain ⟨q, hq, rfl, rfl, rfl, hl1, hl2, h24⟩ := hrel
      have h04 := hb02.trans (h24.mono hb02.size)
      have hB4 := hb0.trans (h04.mono hb0.size)
      obtain ⟨⟨y0, y1⟩, x0, x1, x2, x3, x4, x5, x6, hbz0, hbz1⟩ := hK.out wr (h04)
      by_cases hq1 : q < p.bins.length
      · have hq' : (q : Int) < (p.bins.length : Int) := by omega
        have hA := Lib.hid (availE_ok (b := q) (g := gd) hcs'.out (isBin_iff.2 (by omega)) hgd'.out)
        have hX := Lib.hid (availE_ok (b := q) (g := gd) hcx'.out (isBin_iff.2 (by omega)) hgd'.out)
        have hR := hav'.out q hq1
        have hL1 : leftTo p x gd (q + 1) = leftTo p x gd q + if (binAt p.bins q).front = true then avail x q gd else 0 := rfl
        have hM1 : moreTo p s x gd (q + 1) = moreTo p s x gd q + if (binAt p.bins q).front = true then 0 else avail s q gd - avail x q gd := rfl
        have hL1' := Lib.hid hL1
        have hM1' := Lib.hid hM1
        clear hL1 hM1
        go_wp2_with fail
        clear y0 y1 x0 x1 x2 x3 x4 x5 x6 hbz0 hbz1
        refine (sAvailAt _ _ _ (hP'.out _ hB4) (hV.out _ hB4) hA.out).mono ?_
        rintro e W5 ⟨rfl, h5⟩
        have h25 := h24.trans (h5.mono h24.size)
        have h05 := hb02.trans (h25.mono hb02.size)
        have hB5 := hb0.trans (h05.mono hb0.size)
        obtain ⟨⟨y0, y1⟩, x0, x1, x2, x3, x4, x5, x6, hbz0, hbz1⟩ := hK.out W5 (h05)
        obtain ⟨p0, p1, p2, p3, p4, p5, p6⟩ := (hbox2'.out.below h25 hbl2).cells
        go_wp2_with fail
        clear y0 y1 x0 x1 x2 x3 x4 x5 x6 hbz0 hbz1
        clear p0 p1 p2 p3 p4 p5 p6
        refine (sAvailAt _ _ _ (hP'.out _ hB5) (hv2.out.grow h25) hX.out).mono ?_
        rintro e W6 ⟨rfl, h6⟩
        have h26 := h25.trans (h6.mono h25.size)
        have h06 := hb02.trans (h26.mono hb02.size)
        have hB6 := hb0.trans (h06.mono hb0.size)
        obtain ⟨⟨y0, y1⟩, x0, x1, x2, x3, x4, x5, x6, hbz0, hbz1⟩ := hK.out W6 (h06)
        obtain ⟨ob, lb, e0, _, _, _⟩ := (hBn.out W6 hB6).at_.bin hq1
        obtain ⟨a, ha⟩ : ∃ a, avail s q gd = a := ⟨_, rfl⟩
        obtain ⟨z, hz⟩ : ∃ z, avail x q gd = z := ⟨_, rfl⟩
        rw [ha, hz] at hR
        have ha' := Lib.hid ha
        have hz' := Lib.hid hz
        rw [ha, hz]
        clear ha hz hA hX
        have hnlt : ¬ a < z := by omega
        cases hf : (binAt p.bins q).front
        · have hw1 : IntKind.i64.wrap (moreTo p s x gd q + a) = moreTo p s x gd q + a := IntWalk.i64_in _ (by omega)
          have hw2 : IntKind.i64.wrap (moreTo p s x gd q + a - z) = moreTo p s x gd q + a - z := IntWalk.i64_in _ (by omega)
          rw [hf] at e0
          have hL2 := Lib.hid (show leftTo p x gd (q + 1) = leftTo p x gd q by rw [hL1'.out, hf]; simp)
          have hM2 := Lib.hid (show moreTo p s x gd (q + 1) = moreTo p s x gd q + a - z by rw [hM1'.out, hf, ha'.out, hz'.out]; simp; omega)
          clear hf
          go_wp2_with fail
          go_roundw
          case rel => exact ⟨q + 1, by omega, by go_num, by rw [hL2.out], by rw [hM2.out], by rw [hL2.out]; omega, by rw [hM2.out]; omega, h26⟩
          case measure => simp [intOf]; omega
        · have hw1 : IntKind.i64.wrap (leftTo p x gd q + z) = leftTo p x gd q + z := IntWalk.i64_in _ (by omega)
          rw [hf] at e0
          have hL2 := Lib.hid (show leftTo p x gd (q + 1) = leftTo p x gd q + z by rw [hL1'.out, hf, hz'.out]; simp)
          have hM2 := Lib.hid (show moreTo p s x gd (q + 1) = moreTo p s x gd q by rw [hM1'.out, hf]; simp)
          clear hf
          go_wp2_with fail
          go_roundw
          case rel => exact ⟨q + 1, by omega, by go_num, by rw [hL2.out], by rw [hM2.out], by rw [hL2.out]; omega, by rw [hM2.out]; omega, h26⟩
          case measure => simp [intOf]; omega
      · obtain rfl : q = p.bins.length := by omega
        go_wp2_with fail
        clear y0 y1 x0 x1 x2 x3 x4 x5 x6 hbz0 hbz1
        generalize leftTo p x gd p.bins.length = lf at hl1 hlm' ⊢
        generalize moreTo p s x gd p.bins.length = mr at hl2 hlm' ⊢
        clear h04 hB4 hl1 hl2 hq hq1
        have h24' := h24
        clear h24
        go_loopw [22, 23, 24, 25, 26, 27] (fun o' _ _ _ _ _ wt => ∃ a : Nat, a ≤ s.orders.length ∧ o' = .int .i64 a ∧ Below w2.heap.size w2 wt) (fun o' _ _ _ _ _ _ => s.orders.length - (intOf o').toNat)
        case atStart => exact ⟨0, Nat.zero_le _, rfl, h24'⟩
        case round =>
          obtain ⟨a, ha, rfl, h24⟩ := hrel
          have h04 := hb02.trans (h24.mono hb02.size)
          have hB4 := hb0.trans (h04.mono hb0.size)
          obtain ⟨⟨y0, y1⟩, x0, x1, x2, x3, x4, x5, x6, hbz0, hbz1⟩ := hK.out wr (h04)
          by_cases ha1 : a < s.orders.length
          · have ha' : (a : Int) < (s.orders.length : Int) := by omega
            have l3 := ((checkState_zero.1 hcs'.out).1.lines3 ha1).2
            change (orderAt s.orders a).lines.length ≤ 3 at l3
            go_wp2_with fail
            clear y0 y1 x0 x1 x2 x3 x4 x5 x6 hbz0 hbz1
            have h24'' := h24
            clear h24 h04 hB4
            go_loopw [23, 24, 25, 26, 27] (fun k' _ _ _ _ wt => ∃ b : Nat, b ≤ (orderAt s.orders a).lines.length ∧ k' = .int .i64 b ∧ Below w2.heap.size w2 wt) (fun k' _ _ _ _ _ => (orderAt s.orders a).lines.length - (intOf k').toNat)
            case atStart => exact ⟨0, Nat.zero_le _, rfl, h24''⟩
            case round =>
              obtain ⟨b, hb, rfl, h24⟩ := hrel
              have h04 := hb02.trans (h24.mono hb02.size)
              have hB4 := hb0.trans (h04.mono hb0.size)
              obtain ⟨⟨y0, y1⟩, x0, x1, x2, x3, x4, x5, x6, hbz0, hbz1⟩ := hK.out wr (h04)
              obtain ⟨Al, cl, ol, ll, d0, d1, hsl⟩ := (hO.out wr hB4).order ha1
              by_cases hb1 : b < (orderAt s.orders a).lines.length
              · have hb' : (b : Int) < ((orderAt s.orders a).lines.length : Int) := by omega
                go_wp2_with fail
                clear y0 y1 x0 x1 x2 x3 x4 x5 x6 hbz0 hbz1
                clear d0 d1
                refine (hdKeptAt _ _ s.holds a b (checkState_zero.1 hcs'.out).1.holds (hH.out _ hB4)).mono ?_
                rintro e W5 ⟨rfl, h5⟩
                have h25 := h24.trans (h5.mono h24.size)
                have h05 := hb02.trans (h25.mono hb02.size)
                have hB5 := hb0.trans (h05.mono hb0.size)
                obtain ⟨⟨y0, y1⟩, x0, x1, x2, x3, x4, x5, x6, hbz0, hbz1⟩ := hK.out W5 (h05)
                obtain ⟨p0, p1, p2, p3, p4, p5, p6⟩ := (hbox2'.out.below h25 hbl2).cells
                go_wp2_with fail
                clear y0 y1 x0 x1 x2 x3 x4 x5 x6 hbz0 hbz1
                clear p0 p1 p2 p3 p4 p5 p6
                refine (hdKeptAt _ _ x.holds a b (checkState_zero.1 hcx'.out).1.holds (hv2.out.grow h25).holdsV).mono ?_
                rintro e W6 ⟨rfl, h6⟩
                have h26 := h25.trans (h6.mono h25.size)
                by_cases hq : a = i ∧ b = j
                · have t1 : ((a : Int) != i) = false := by simp; omega
                  have t2 : ((b : Int) != j) = false := by simp; omega
                  clear hq
                  go_wp2_with fail
                  go_roundw
                  case rel => exact ⟨b + 1, by omega, by go_num, h26⟩
                  case measure => simp [intOf]; omega
                · rw [hkp'.out a b hq]
                  by_cases hai : a = i
                  · have t1 : ((a : Int) != i) = false := by simp; omega
                    have t2 : ((b : Int) != j) = true := by simp; omega
                    clear hq hai
                    go_wp2_with fail
                    go_roundw
                    case rel => exact ⟨b + 1, by omega, by go_num, h26⟩
                    case measure => simp [intOf]; omega
                  · have t1 : ((a : Int) != i) = true := by simp; omega
                    clear hq hai
                    go_wp2_with fail
                    go_roundw
                    case rel => exact ⟨b + 1, by omega, by go_num, h26⟩
                    case measure => simp [intOf]; omega
              · obtain rfl : b = (orderAt s.orders a).lines.length := by omega
                go_wp2_with fail
                go_roundw
                case rel => exact ⟨a + 1, by omega, by go_num, h24⟩
                case measure => simp [intOf]; omega
          · obtain rfl : a = s.orders.length := by omega
            go_wp2_with fail
            clear y0 y1 x0 x1 x2 x3 x4 x5 x6 hbz0 hbz1
            refine (allocBegun _).mono ?_
            rintro e W5 ⟨rfl, h5⟩
            have hB5 := hB4.trans (h5.mono hB4.size)
            by_cases hz : lf = 0
            · subst hz
              go_wp2_with fail
              go_ret
              exact ⟨rfl, hB5⟩
            · obtain rfl : mr = 0 := by have := hlm'.out; omega
              have hz' : (lf == 0) = false := by simpa using hz
              clear hz
              go_wp2_with fail
              go_ret
              exact ⟨rfl, hB5⟩
  · have hne : (c != 0) = true := by simpa using hc
    clear hc hT
    obtain ⟨Ab, cb, As, cs, rfl, hP', hBn, hSz, hlb, hls⟩ := openPl hp
    obtain ⟨A0, c0, A1, c1, A2, c2, A3, c3, A4, c4, A5, c5, A6, c6, rfl, hV, hN, hO, hH, hM, hI, hU, hX, hl0, hl1, hl2, hl3, hl4, hl5, hl6⟩ := openOne hv
    go_enter Try.func13, Try.ntmps13
    go_wp2_with fail
    obtain ⟨W0, hW0, hb0, hsz0, hsz1, hsE, hK⟩ := boxesTwo w p s Ab cb As cs A0 c0 A1 c1 A2 c2 A3 c3 A4 c4 A5 c5 A6 c6
    rw [hW0]
    clear hW0
    obtain ⟨⟨y0, y1⟩, x0, x1, x2, x3, x4, x5, x6, hbz0, hbz1⟩ := hK.out W0 (Below.refl W0.heap.size W0)
    go_wp2_with fail
    clear y0 y1 x0 x1 x2 x3 x4 x5 x6 hbz0 hbz1
    refine (alTakeAt hT'.out _ _ _ (hP'.out _ hb0) (hV.out _ hb0)).mono ?_
    rintro e W1 ⟨V1, rfl, ho1, hb1⟩
    have hone2 := (ho1).one
    have hnb2 := newBox (W1)
    go_wp2_with (refine wpList_store_state rfl (.tmp 11) (.tmp 35) rfl rfl (World.heap (W1)).size nilSV V1 hnb2 rfl rfl hone2 (fun w2 hbox2 hg2 => ?_); refine Hid.out ?_)
    unfold Hid
    have hbb2 := newBelow hg2
    have hbl2 := hbox2.lt
    clear hone2 hnb2 hg2
    have hB2 := hb0.trans ((hb1.trans (hbb2.mono hb1.size)).mono hb0.size)
    clear hbox2 ho1 hb1 hbb2
    go_wp2_with fail
    refine (allocBegun _).mono ?_
    rintro e W9 ⟨rfl, h9⟩
    go_wp2_with fail
    go_ret
    exact ⟨rfl, hB2.trans (h9.mono hB2.size)⟩
end Wh
