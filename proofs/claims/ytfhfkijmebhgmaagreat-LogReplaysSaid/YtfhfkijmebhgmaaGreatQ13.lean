/- Texts of the claim, joined: StateM, OwnU, RelG, Act. -/
import Derived.Deep.OwnRows
import Derived.Test.YtfhfkijmebhgmaaGreatQ09
import Derived.Test.YtfhfkijmebhgmaaGreatQ07
import Derived.Test.YtfhfkijmebhgmaaGreatQ10
import Derived.Test.YtfhfkijmebhgmaaGreatQ12
import Derived.Test.YtfhfkijmebhgmaaGreatQ06
namespace Wh
open Go Go.RowKit Go.Shelf Go.Proofs
attribute [local go_sem] run_indexAt_letter evL_tmp evL_const evL_func

def nilSV : SV := ⟨nilV, nilV, nilV, nilV, nilV, nilV, nilV, [], []⟩
theorem OwnSt.zero (w : World) (base : Nat) : OwnSt w base nilSV dState :=
  ⟨Own.nil, rfl, (fun b h => by cases h), Own.nil, rfl, (fun o h => by cases h), Own.nil, Own.nil, Own.nil, Own.nil, Own.nil, by unfold apartL nilSV; simp [nilV, Value.ownBlock], List.Pairwise.nil⟩
theorem newBox (W : World) : BoxAt (W.alloc (.cells #[.slice none 0 0, .slice none 0 0, .slice none 0 0, .slice none 0 0, .slice none 0 0, .slice none 0 0, .slice none 0 0] 31)) W.heap.size nilSV := Blk.new _ _ _
theorem newBelow {W w3 : World} {o : Obj} (hg : (W.alloc o).grownBy w3 (some W.heap.size)) : Below W.heap.size W w3 := ((Below.refl _ _).alloc (Nat.le_refl _) _).grown hg (by simp) (fun k hk => by injection hk with hk; omega)
/-- A row more. -/
theorem OwnSt.pushRow {w : World} {base : Nat} {V : SV} {s : State} {w1 w2 : World} (h : OwnSt w base V s) (hb : Below w.heap.size w w1) {u : Value} {x : List Int} (hu : Own cInt 1 3 w1 base u x) (hf : ∀ g, u.ownBlock = some g → w.heap.size ≤ g) (hg : w1.grownBy w2 V.on.ownBlock)
    {v' : Value} (hv : Own (fun u : Value => [u]) 1 23 w2 base v' (V.rows ++ [u])) : OwnSt w2 base { V with on := v', rows := V.rows ++ [u] } { s with on := s.on ++ [x] } := by
  have k := h.below hb
  have hlt : ∀ a, a ∈ V.rows ++ [V.inn, V.out, V.fixed] → ∀ g, a.ownBlock = some g → g < w.heap.size := by
    intro a ha g hg
    rcases List.mem_append.1 ha with ha | ha
    · obtain ⟨i, hi, rfl⟩ := List.getElem_of_mem ha
      have hil : i < s.on.length := by rw [← h.rlen]; exact hi
      have e1 : V.row i = V.rows[i] := by unfold SV.row; simp [hi]
      exact ((h.row i hil).size g (by rw [e1]; exact hg)).2
    · simp only [List.mem_cons, List.not_mem_nil, or_false] at ha
      rcases ha with rfl | rfl | rfl
      · exact (h.inn.size g hg).2
      · exact (h.out.size g hg).2
      · exact (h.fixed.size g hg).2
  refine ⟨hv, by simp [h.rlen], fun b hlt => ?_, k.orders.kept hg (k.orders.apart k.on (by decide)), k.llen, fun o ho => (k.line o ho).kept hg ((k.line o ho).apart k.on (by decide)),
    k.holds.kept hg (k.holds.apart k.on (by decide)), k.moves.kept hg (k.moves.apart k.on (by decide)), k.inn.kept hg (k.inn.apart k.on (by decide)), k.out.kept hg (k.out.apart k.on (by decide)), k.fixed.kept hg (k.fixed.apart k.on (by decide)), ?_, k.apartl⟩
  · have hb' : b < s.on.length + 1 := by simpa using hlt
    by_cases hlt : b < s.on.length
    · have e1 : SV.row { V with on := v', rows := V.rows ++ [u] } b = V.row b := by
        unfold SV.row
        simp [List.getD_eq_getElem?_getD, List.getElem?_append_left (show b < V.rows.length by rw [h.rlen]; exact hlt)]
      have e2 : rowAt (s.on ++ [x]) b = rowAt s.on b := by
        unfold rowAt
        simp [List.getD_eq_getElem?_getD, List.getElem?_append_left hlt]
      rw [e1]
      show Own cInt 1 3 w2 base (V.row b) (rowAt (s.on ++ [x]) b)
      rw [e2]
      exact (k.row b hlt).kept hg ((k.row b hlt).apart k.on (by decide))
    · have hb2 : b = s.on.length := by omega
      have e1 : SV.row { V with on := v', rows := V.rows ++ [u] } b = u := by
        unfold SV.row
        rw [hb2, ← h.rlen]
        simp
      have e2 : rowAt (s.on ++ [x]) b = x := by
        unfold rowAt
        rw [hb2]
        simp
      rw [e1]
      show Own cInt 1 3 w2 base u (rowAt (s.on ++ [x]) b)
      rw [e2]
      exact hu.kept hg (hu.apart k.on (by decide))
  · show apartL (V.rows ++ [u] ++ [V.inn, V.out, V.fixed])
    have ha := h.apart
    unfold apartL at ha ⊢
    obtain ⟨p1, p2, p3⟩ := List.pairwise_append.1 ha
    rw [List.append_assoc, List.pairwise_append]
    refine ⟨p1, List.pairwise_cons.2 ⟨fun b hb g hg he => ?_, p2⟩, fun a ha b hb g hg he => ?_⟩
    · have h1 := hlt b (List.mem_append_right _ hb) g he
      have h2 := hf g hg
      omega
    · rcases List.mem_append.1 hb with hb | hb
      · obtain rfl := List.mem_singleton.1 hb
        have h1 := hlt a (List.mem_append_left _ ha) g hg
        have h2 := hf g he
        omega
      · exact p3 a ha b hb g hg he

theorem OwnSt.one {w : World} {base : Nat} {V : SV} {s : State} (h : OwnSt w base V s) : V.cells.all (fun u => u.oneCell') = true := by
  simp [SV.cells, own_one h.on, own_one h.orders, own_one h.holds, own_one h.moves, own_one h.inn, own_one h.out, own_one h.fixed]
theorem made_cells (n : Nat) : (madeCells #[Value.int .i64 0] n).toList = (List.replicate n (0 : Int)).flatMap cInt := by
  induction n with
  | zero => simp [madeCells]
  | succ n ih =>
    rw [List.replicate_succ', List.flatMap_append, ← ih]
    unfold madeCells
    rw [Array.range_succ]
    simp [cInt, Nat.mod_one]
theorem Own.made_zeros (w : World) (n : Nat) (hn : n ≤ 1000) : Own cInt 1 3 (w.alloc (.cells (madeCells #[Value.int .i64 0] n) 3)) w.heap.size (.slice (some ⟨w.heap.size, 0, none⟩) n n) (List.replicate n 0) := by
  have := Own.lit (base := w.heap.size) (enc := cInt) (size := 1) w 3 (madeCells #[Value.int .i64 0] n) (List.replicate n 0) (Nat.le_refl _) (by simp; omega) (fun _ => rfl) (made_cells n)
  simpa using this
theorem sNone (w : World) (B n cs : Nat) (As : Option Addr) (h1 : w.cell? ⟨B, 1, none⟩ = some (.slice As n cs)) (hn : n ≤ 1000) :
    Calls Tryz.prog 150 #[.pointer (some ⟨B, 0, none⟩)] w fun e w' => ∃ A c, e = .returned (.slice A n c) ∧ Own cInt 1 3 w' w.heap.size (.slice A n c) (List.replicate n 0) ∧ Below w.heap.size w w' := by
  have hmk := run_make_row' (P := Tryz.prog) 23 3 (.int .i64 0) 8 Tryz.underlying23 (by kernel_rfl) rfl .i64 .i64 n (by omega) (by omega)
  go_enter Tryz.func150, Tryz.ntmps150
  go_wp2_with fail
  go_ret
  exact ⟨_, _, rfl, Own.made_zeros w n hn, (Below.refl _ _).alloc (Nat.le_refl _) _⟩

def begunTo (p : Plan) (k : Nat) : State :=
  ⟨List.replicate k (List.replicate p.sizes.length 0), [], [], [], List.replicate p.sizes.length 0, List.replicate p.sizes.length 0, List.replicate p.sizes.length 0⟩
theorem begunTo_succ (p : Plan) (k : Nat) : begunTo p (k + 1) = { begunTo p k with on := (begunTo p k).on ++ [List.replicate p.sizes.length 0] } := by
  unfold begunTo
  simp [List.replicate_succ']
/-- The sums of a state that begins. -/
theorem OwnSt.begun {w : World} {base : Nat} {vi vu vx : Value} {z : List Int} (h1 : Own cInt 1 3 w base vi z) (h2 : Own cInt 1 3 w base vu z) (h3 : Own cInt 1 3 w base vx z)
    (h12 : ∀ g, vi.ownBlock = some g → vu.ownBlock ≠ some g) (h13 : ∀ g, vi.ownBlock = some g → vx.ownBlock ≠ some g) (h23 : ∀ g, vu.ownBlock = some g → vx.ownBlock ≠ some g) :
    OwnSt w base ⟨nilV, nilV, nilV, nilV, vi, vu, vx, [], []⟩ ⟨[], [], [], [], z, z, z⟩ :=
  ⟨Own.nil, rfl, (fun b h => by cases h), Own.nil, rfl, (fun o h => by cases h), Own.nil, Own.nil, h1, h2, h3, by
    unfold apartL
    refine List.pairwise_cons.2 ⟨fun b hb => ?_, List.pairwise_cons.2 ⟨fun b hb => ?_, List.pairwise_singleton _ _⟩⟩
    · simp only [List.mem_cons, List.not_mem_nil, or_false] at hb
      rcases hb with rfl | rfl
      · exact h12
      · exact h13
    · obtain rfl := List.mem_singleton.1 hb
      exact h23, List.Pairwise.nil⟩

set_option maxHeartbeats 4000000 in
set_option maxRecDepth 100000 in
theorem sBegin (w : World) (v : Value) (p : Plan) (hp : PlanV w w.heap.size v p) :
    Calls Tryz.prog 88 #[v] w fun e w' => ∃ V, e = .returned (.tuple #[V.val, .int .i64 (checkPlan p)]) ∧ OwnSt w' w.heap.size V (if checkPlan p = 0 then begin p else dState) ∧ Below w.heap.size w w' := by
  have hP := hp
  obtain ⟨_, _, rfl, ⟨Ab, cb, rfl, hlb, hb⟩, ⟨As, cs, rfl, hls, hs⟩⟩ := hp
  have hb0 : Below w.heap.size w ((w.alloc (.cells #[.slice Ab p.bins.length cb, .slice As p.sizes.length cs] 25)).alloc (.cells #[.slice none 0 0, .slice none 0 0, .slice none 0 0, .slice none 0 0, .slice none 0 0, .slice none 0 0, .slice none 0 0] 31)) := ((Below.refl _ _).alloc (Nat.le_refl _) _).alloc (by simp) _
  have hsz0 : w.heap.size + 1 < ((w.alloc (.cells #[.slice Ab p.bins.length cb, .slice As p.sizes.length cs] 25)).alloc (.cells #[.slice none 0 0, .slice none 0 0, .slice none 0 0, .slice none 0 0, .slice none 0 0, .slice none 0 0, .slice none 0 0] 31)).heap.size := by simp
  have hk0 : Blk ((w.alloc (.cells #[.slice Ab p.bins.length cb, .slice As p.sizes.length cs] 25)).alloc (.cells #[.slice none 0 0, .slice none 0 0, .slice none 0 0, .slice none 0 0, .slice none 0 0, .slice none 0 0, .slice none 0 0] 31)) w.heap.size 25 [.slice Ab p.bins.length cb, .slice As p.sizes.length cs] := (Blk.new _ _ _).alloc _
  have hk1 : BoxAt ((w.alloc (.cells #[.slice Ab p.bins.length cb, .slice As p.sizes.length cs] 25)).alloc (.cells #[.slice none 0 0, .slice none 0 0, .slice none 0 0, .slice none 0 0, .slice none 0 0, .slice none 0 0, .slice none 0 0] 31)) (w.heap.size + 1) nilSV := by
    have := Blk.new (w.alloc (.cells #[.slice Ab p.bins.length cb, .slice As p.sizes.length cs] 25)) 31 #[.slice none 0 0, .slice none 0 0, .slice none 0 0, .slice none 0 0, .slice none 0 0, .slice none 0 0, .slice none 0 0]
    rw [World.size_alloc] at this
    exact this
  have hP' := Lib.hid (fun W (hW : Below w.heap.size w W) => hP.up hW hW.size)
  clear hb hs hP
  go_enter Tryz.func88, Tryz.ntmps88
  go_wp2_with fail
  generalize hW0 : (w.alloc (.cells #[.slice Ab p.bins.length cb, .slice As p.sizes.length cs] 25)).alloc _ = W0 at hb0 hsz0 hk0 hk1 ⊢
  clear hW0
  have hk0' := Lib.hid hk0
  have hk1' := Lib.hid hk1
  clear hk0 hk1
  refine (planCheck _ _ p (hP'.out _ hb0)).mono ?_
  rintro e W1 ⟨rfl, hb1⟩
  have hB1 := hb0.trans (hb1.mono hb0.size)
  have hz1 := Nat.lt_of_lt_of_le hsz0 hb1.size
  have hx1 := hk1'.out.below hb1 hsz0
  by_cases hz : checkPlan p = 0
  · obtain ⟨_, hc6, _, hc3⟩ := right_counts hz
    rw [hz]
    have hz' := Lib.hid hz
    clear hz
    have hp1 := (hk0'.out.below hb1 (by omega)).cell (j := 1) rfl
    go_wp2_with fail
    refine (sNone W1 w.heap.size _ _ _ hp1 (by omega)).mono ?_
    rintro e W2 ⟨E2, k2, rfl, ho2, hb2⟩
    have hb12 := hb1.trans (hb2.mono hb1.size)
    have hp2 := (hk0'.out.below hb12 (by omega)).cell (j := 1) rfl
    clear hp1
    go_wp2_with fail
    refine (sNone W2 w.heap.size _ _ _ hp2 (by omega)).mono ?_
    rintro e W3 ⟨E3, k3, rfl, ho3, hb3⟩
    have hb13 := hb12.trans (hb3.mono hb12.size)
    have hp3 := (hk0'.out.below hb13 (by omega)).cell (j := 1) rfl
    clear hp2
    go_wp2_with fail
    refine (sNone W3 w.heap.size _ _ _ hp3 (by omega)).mono ?_
    rintro e W4 ⟨E4, k4, rfl, ho4, hb4⟩
    have hb14 := hb13.trans (hb4.mono hb13.size)
    clear hp3
    have hO := OwnSt.begun ((ho2.below (hb3.trans (hb4.mono hb3.size))).from_ hb1.size) ((ho3.below hb4).from_ (hb12).size) (ho4.from_ hb13.size)
      (fun g h h' => by have := (ho2.size g h).2; have := (ho3.size g h').1; omega) (fun g h h' => by have := (ho2.size g h).2; have := (ho4.size g h').1; have := hb3.size; omega) (fun g h h' => by have := (ho3.size g h).2; have := (ho4.size g h').1; omega)
    have hone := hO.one
    have hO' := Lib.hid hO
    clear hO ho2 ho3 ho4
    have hnb : BoxAt (W4.alloc (.cells #[.slice none 0 0, .slice none 0 0, .slice none 0 0, .slice none 0 0, .slice none 0 0, .slice none 0 0, .slice none 0 0] 31)) W4.heap.size nilSV := Blk.new _ _ _
    go_wp2_with (refine wpList_store_state rfl (.tmp 6) (.tmp 20) rfl rfl W4.heap.size nilSV ⟨nilV, nilV, nilV, nilV, .slice E2 p.sizes.length k2, .slice E3 p.sizes.length k3, .slice E4 p.sizes.length k4, [], []⟩ hnb rfl rfl hone (fun w5 hbox5 hg5 => ?_); refine Hid.out ?_)
    unfold Hid
    have hlb : W0.heap.size ≤ W4.heap.size := hb14.size
    have hb15 : Below W0.heap.size W0 w5 := (hb14.alloc hb14.size _).grown hg5 (by have := hb14.size; simp; omega) (fun k hk => by injection hk with hk; omega)
    have hO5 := (hO'.out.alloc (.cells #[.slice none 0 0, .slice none 0 0, .slice none 0 0, .slice none 0 0, .slice none 0 0, .slice none 0 0, .slice none 0 0] 31)).keptBy hg5 hnb.blk (by decide) (by decide) (by decide) (by decide) (by decide) (by decide)
    have hO5' := Lib.hid hO5
    have hbox5' := Lib.hid hbox5
    have hpl0 := (hk0'.out.below hb15 (by omega)).cell (j := 0) rfl
    clear hO5 hbox5 hO' hnb hg5 hone hb2 hb3 hb4 hb12 hb13 hb14
    generalize W4.heap.size = b at hlb hbox5' ⊢
    go_wp2_with fail
    go_loopw [24] (fun i wr => ∃ (k : Nat) (V : SV), k ≤ p.bins.length ∧ i = .int .i64 k ∧ OwnSt wr W0.heap.size V (begunTo p k) ∧ BoxAt wr b V ∧ Below W0.heap.size W0 wr) (fun i _ => p.bins.length - (intOf i).toNat)
    case atStart => exact ⟨0, _, Nat.zero_le _, rfl, hO5'.out, hbox5'.out, hb15⟩
    case round =>
      clear hpl0 hO5' hbox5' hb15
      obtain ⟨k, V, hk, rfl, hOw, hbx, hbw⟩ := hrel
      have hOw' := Lib.hid hOw
      have hbx' := Lib.hid hbx
      have hB := hb0.trans (hbw.mono hb0.size)
      have hbxl := hbx.lt
      clear hOw hbx
      by_cases hlt : k < p.bins.length
      · go_wp2_with fail
        refine wp_region_ops 5 [
          fun g _ => g 26 = .pointer (some ⟨b, 0, none⟩),
          fun g _ => g 27 = V.on,
          fun g _ => g 28 = .func (.func 150) #[] #[.pointer (some ⟨w.heap.size, 0, none⟩)],
          fun g w' => (fun v w' => Own cInt 1 3 w' wr.heap.size v (List.replicate p.sizes.length 0)) (g 29) w',
          fun g w' => (fun v w' => ∃ bb u, v = .slice (some ⟨bb, 0, none⟩) 1 1 ∧ w'.cell? ⟨bb, 0, none⟩ = some u ∧ bb < w'.heap.size ∧ Own cInt 1 3 w' wr.heap.size u (List.replicate p.sizes.length 0)) (g 30) w'] (by kernel_rfl) (by kernel_rfl) rfl (by kernel_rfl) ?_ (fun f w2 hb2 hR => ?_)
        simp only [List.take_succ_cons, List.take_zero]
        refine OpsOK.cons (OpOK.val rfl rfl (fun g w' hb ho hd => ?_)) ?_
        · have e1 := ho 6 rfl
          go_simp
        refine OpsOK.cons (OpOK.val rfl rfl (fun g w' hb ho hd => ?_)) ?_
        · have e1 : g 26 = .pointer (some ⟨b, 0, none⟩) := hd ⟨0, .data⟩ (by simp) rfl (by decide)
          have x0 := (hbx'.out.below hb hbxl).cells.1
          go_simp
        refine OpsOK.cons (OpOK.val rfl rfl (fun g w' hb ho hd => ?_)) ?_
        · have e1 := ho 5 rfl
          go_simp
        refine OpsOK.cons (OpOK.one (d := 29) (p := (fun v w' => Own cInt 1 3 w' wr.heap.size v (List.replicate p.sizes.length 0))) rfl rfl (fun v w1 w2 h hb => h.below hb) (fun g w' hb ho hd => ?_)) ?_
        · have e1 : g 28 = .func (.func 150) #[] #[.pointer (some ⟨w.heap.size, 0, none⟩)] := hd ⟨2, .data⟩ (by simp) rfl (by decide)
          have hp1 := (hk0'.out.below (hbw.trans (hb.mono hbw.size)) (by omega)).cell (j := 1) rfl
          unfold OpRel
          go_simp
          refine (sNone w' w.heap.size _ _ _ hp1 (by omega)).mono ?_
          rintro e w2 ⟨E, kc, rfl, ho2, hb2⟩
          exact ⟨_, rfl, ho2.from_ hb.size, hb2⟩
        refine OpsOK.cons (OpOK.one (d := 30) (p := (fun v w' => ∃ bb u, v = .slice (some ⟨bb, 0, none⟩) 1 1 ∧ w'.cell? ⟨bb, 0, none⟩ = some u ∧ bb < w'.heap.size ∧ Own cInt 1 3 w' wr.heap.size u (List.replicate p.sizes.length 0))) rfl rfl (fun v w1 w2 h hb => ?_) (fun g w' hb ho hd => ?_)) ?_
        · obtain ⟨bb, u, h1, h2, h3, h4⟩ := h
          exact ⟨bb, u, h1, (hb.cell (p := ⟨bb, 0, none⟩) h3).trans h2, Nat.lt_of_lt_of_le h3 hb.size, h4.below hb⟩
        · have e1 : Own cInt 1 3 w' wr.heap.size (g 29) (List.replicate p.sizes.length 0) := hd ⟨3, .data⟩ (by simp) rfl (by decide)
          obtain ⟨E, kc, e2⟩ := e1.isSlice
          have e1' := Lib.hid e1
          clear e1
          unfold OpRel
          go_simp
          have e3 : Own cInt 1 3 w' wr.heap.size (.slice E p.sizes.length kc) (List.replicate p.sizes.length 0) := by
            have := e1'.out
            rw [e2] at this
            simpa using this
          exact ⟨e3.alloc _, (Below.refl _ _).alloc (Nat.le_refl _) _⟩
        exact OpsOK.nil
        obtain ⟨r0, r1, r2, r3, ⟨bb, u, r4, c4, l4, o4⟩, _⟩ := hR
        simp only [fillA, fillT, List.take_succ_cons, List.take_zero, List.drop_succ_cons, List.drop_zero, List.filterMap_cons, List.filterMap_nil, List.foldl_cons, List.foldl_nil, List.setIfInBounds_toArray, List.set_cons_zero, List.set_cons_succ, r0, r1, r2, r4]
        clear r0 r1 r2 r3 r4
        have hOw2 := hOw'.out.below hb2
        have huf : ∀ g, Value.ownBlock u = some g → wr.heap.size ≤ g := fun g hg => (o4.size g hg).1
        refine wpList_push _ rfl (.tmp 27) (.tmp 30) 26 23 rfl W0.heap.size _ 1 24 Tryz.underlying26 infoInts rfl (by decide) (by decide) V.on V.rows u rfl hOw2.on ⟨bb, 0, none⟩ 1 rfl rfl (fun j x hj => by
          cases j with
          | zero => simp only [List.getElem?_cons_zero, Option.some.injEq] at hj; subst hj; exact c4
          | succ j => simp at hj) (one_val _ (own_one o4)) (by rw [hOw2.rlen]; simp [begunTo]; omega) (Nat.le_trans hbw.size hb2.size) ?_
        intro v7 w7 hown7 hg7 hat7 hbel7
        have hO7 := hOw'.out.pushRow hb2 (o4.from_ hbw.size) huf hg7 hown7
        have hBx7 : BoxAt w7 b V := (hbx'.out.below hb2 hbxl).grown hg7 (fun he => by
          rcases hOw2.on.notBox (hbx'.out.below hb2 hbxl).blk (by decide) with h | h
          · rw [h] at he; cases he
          · exact h he.symm)
        have hbw7 : Below W0.heap.size W0 w7 := (hbw.trans (hb2.mono hbw.size)).trans hbel7
        have hO8 := hO7.box hBx7 0 v7
        have hBx8 := hBx7.setOn v7
        rw [← begunTo_succ] at hO8
        have hbw8 := hbw7.setCell (p := ⟨b, 0, none⟩) hlb v7
        obtain ⟨Av, cv, hv7⟩ := hown7.isSlice
        simp only [List.length_append, List.length_cons, List.length_nil, Nat.zero_add] at hv7
        have hO8' := Lib.hid hO8
        have hBx8' := Lib.hid hBx8
        have q1 := hBx7.cells.1
        have qf := hBx7.frozen 0
        clear hO8 hBx8 hO7 hBx7 hown7 hg7 hat7 hbel7 huf hOw2 o4 c4
        subst hv7
        go_wp2_with fail
        go_roundw
        case rel => exact ⟨k + 1, _, by omega, by go_num, hO8'.out, hBx8'.out, hbw8⟩
        case measure => simp [intOf]; omega
      · obtain rfl : k = p.bins.length := by omega
        have hR1 := hk1'.out.below hbw hsz0
        obtain ⟨b0, b1, b2, b3, b4, b5, b6⟩ := hbx'.out.cells
        have hone := hOw'.out.one
        go_wp2_with (refine wpList_store_state rfl (.tmp 2) (.tmp 34) rfl rfl (w.heap.size + 1) nilSV V hR1 rfl rfl hone (fun w9 hbox9 hg9 => ?_))
        have hO9 := hOw'.out.keptBy hg9 hR1.blk (by decide) (by decide) (by decide) (by decide) (by decide) (by decide)
        obtain ⟨p0, p1, p2, p3, p4, p5, p6⟩ := hbox9.cells
        have hfin : Below w.heap.size w w9 := hB.grown hg9 hB.size (fun k hk => by injection hk with hk; omega)
        have hsB : w.heap.size ≤ W0.heap.size := hb0.size
        clear b0 b1 b2 b3 b4 b5 b6
        go_wp2_with fail
        exact bodyPost_ret (v := .tuple #[V.val, .int .i64 0]) (by simp [results, Tryz.results88, go_sem, SV.val, p0, p1, p2, p3, p4, p5, p6]) rfl ⟨V, rfl, hO9.from_ hsB, hfin⟩
  · have hne : (checkPlan p != 0) = true := by simpa using hz
    go_wp2_with (refine wpList_store_state rfl (.tmp 2) (.tmp 11) rfl rfl (w.heap.size + 1) nilSV nilSV hx1 rfl rfl rfl (fun w9 hbox9 hg9 => ?_))
    obtain ⟨p0, p1, p2, p3, p4, p5, p6⟩ := hbox9.cells
    have hfin : Below w.heap.size w w9 := hB1.grown hg9 hB1.size (fun k hk => by injection hk with hk; omega)
    go_wp2_with fail
    refine bodyPost_ret (v := .tuple #[nilSV.val, .int .i64 (checkPlan p)]) (by simp [results, Tryz.results88, go_sem, SV.val, p0, p1, p2, p3, p4, p5, p6]) rfl ⟨nilSV, rfl, ?_, hfin⟩
    exact OwnSt.zero _ _

/-- What BeginOf has made by now. -/
structure RB (w : World) (base : Nat) (V : SV) (z : List Int) (k : Nat) : Prop where
  on : Own (fun u : Value => [u]) 1 23 w base V.on V.rows
  rlen : V.rows.length = k
  row : ∀ b, b < k → Own cInt 1 3 w base (V.row b) z
  inn : Own cInt 1 3 w base V.inn z
  out : Own cInt 1 3 w base V.out z
  fixed : Own cInt 1 3 w base V.fixed z
  none1 : V.orders = nilV
  none2 : V.holds = nilV
  none3 : V.moves = nilV
namespace RB
variable {w w' : World} {base : Nat} {V : SV} {z : List Int} {k : Nat}
theorem below (h : RB w base V z k) (hb : Below w.heap.size w w') : RB w' base V z k :=
  ⟨h.on.below hb, h.rlen, fun b hk => (h.row b hk).below hb, h.inn.below hb, h.out.below hb, h.fixed.below hb, h.none1, h.none2, h.none3⟩
theorem keptBy (h : RB w base V z k) {b : Nat} {t : TypeId} {cur : List Value} (hg : w.grownBy w' (some b)) (hb : Blk w b t cur) (h1 : 23 ≠ t) (h2 : 3 ≠ t) : RB w' base V z k :=
  ⟨h.on.kept hg (h.on.notBox hb h1), h.rlen, fun b hk => (h.row b hk).kept hg ((h.row b hk).notBox hb h2), h.inn.kept hg (h.inn.notBox hb h2), h.out.kept hg (h.out.notBox hb h2), h.fixed.kept hg (h.fixed.notBox hb h2), h.none1, h.none2, h.none3⟩
theorem from_ (h : RB w base V z k) {base' : Nat} (hb : base' ≤ base) : RB w base' V z k :=
  ⟨h.on.from_ hb, h.rlen, fun b hk => (h.row b hk).from_ hb, h.inn.from_ hb, h.out.from_ hb, h.fixed.from_ hb, h.none1, h.none2, h.none3⟩
theorem one (h : RB w base V z k) : V.cells.all (fun u => u.oneCell') = true := by
  simp [SV.cells, own_one h.on, own_one h.inn, own_one h.out, own_one h.fixed, h.none1, h.none2, h.none3, show nilV.oneCell' = true from rfl]
theorem push (h : RB w base V z k) {u v' : Value} (hu : Own cInt 1 3 w base u z) (hg : w.grownBy w' V.on.ownBlock) (hv : Own (fun u : Value => [u]) 1 23 w' base v' (V.rows ++ [u])) : RB w' base { V with on := v', rows := V.rows ++ [u] } z (k + 1) := by
  refine ⟨hv, by simp [h.rlen], fun b hb => ?_, h.inn.kept hg (h.inn.apart h.on (by decide)), h.out.kept hg (h.out.apart h.on (by decide)), h.fixed.kept hg (h.fixed.apart h.on (by decide)), h.none1, h.none2, h.none3⟩
  by_cases hlt : b < k
  · have e1 : SV.row { V with on := v', rows := V.rows ++ [u] } b = V.row b := by
      unfold SV.row
      simp [List.getD_eq_getElem?_getD, List.getElem?_append_left (show b < V.rows.length by rw [h.rlen]; exact hlt)]
    rw [e1]
    exact (h.row b hlt).kept hg ((h.row b hlt).apart h.on (by decide))
  · have hb2 : b = k := by omega
    have e1 : SV.row { V with on := v', rows := V.rows ++ [u] } b = u := by
      unfold SV.row
      rw [hb2, ← h.rlen]
      simp
    rw [e1]
    exact hu.kept hg (hu.apart h.on (by decide))
theorem view {p : Plan} (h : RB w base V (List.replicate p.sizes.length 0) p.bins.length) (hc : p.bins.length ≤ 1000) (hc2 : p.sizes.length ≤ 1000) : StateV w w.heap.size V.val (begin p) := by
  obtain ⟨A, c, e, _, hA⟩ := h.on.sl (by rw [h.rlen]; omega)
  have hrl := h.rlen
  refine ⟨_, _, _, _, _, _, _, rfl, ⟨A, c, V.rows, by rw [e, hrl]; simp [begin], by simp [begin]; omega, by simp [begin, hrl], ?_, fun i x hi => ?_⟩, ?_, ?_, ?_, h.inn.sl (by simp; omega), h.out.sl (by simp; omega), h.fixed.sl (by simp; omega)⟩
  · have : V.rows.flatMap (fun u => [u]) = V.rows := by simp
    rw [this] at hA
    exact hA
  · have hi' : (List.replicate p.bins.length (List.replicate p.sizes.length (0 : Int)))[i]? = some x := hi
    rw [List.getElem?_replicate] at hi'
    by_cases hlt : i < p.bins.length
    · rw [if_pos hlt] at hi'
      injection hi' with hi'
      subst hi'
      refine ⟨V.row i, ?_, (h.row i hlt).sl (by simp; omega)⟩
      unfold SV.row
      simp [show i < V.rows.length by omega]
    · rw [if_neg hlt] at hi'
      cases hi'
  · rw [h.none1]; exact ⟨none, 0, [], rfl, by simp [begin], rfl, At.nil, fun i x h => by simp [begin] at h⟩
  · rw [h.none2]; exact Sl.nil
  · rw [h.none3]; exact Sl.nil
end RB

end Wh
namespace Wh
open Go Go.RowKit Go.Proofs

section
variable {α : Type} {enc : α → List Value} {size : Nat} {e : TypeId} {w : World} {base : Nat} {v : Value} {l : List α}
theorem Own.at (h : Own enc size e w base v l) (hk : ∀ x, (enc x).length = size) {i : Nat} (hi : i < l.length) :
    ∃ g c cur, v = .slice (some ⟨g, 0, none⟩) l.length c ∧ base ≤ g ∧ Blk w g e cur ∧ ∀ j u, (enc l[i])[j]? = some u → w.cell? ⟨g, i * size + j, none⟩ = some u := by
  obtain ⟨g, c, cur, h1, h2, h3, h4, h5, h6, h7⟩ := h.row (by omega)
  refine ⟨g, c, cur, h1, h2, h3, fun j u hj => h3.cell ?_⟩
  have hjs : j < size := by
    have := (List.getElem?_eq_some_iff.1 hj).1
    rwa [hk] at this
  have hf := flat_get enc size hk l i j l[i] (by simp [hi]) hjs
  rw [← h7] at hf
  rw [← hj, ← hf, List.getElem?_take]
  rw [if_pos]
  calc i * size + j < i * size + size := by omega
    _ = (i + 1) * size := by rw [Nat.add_mul]; omega
    _ ≤ l.length * size := Nat.mul_le_mul_right _ (by omega)
end

theorem Blk.ne {w : World} {g g' : Nat} {e e' : TypeId} {cur cur' : List Value} (h : Blk w g e cur) (h' : Blk w g' e' cur') (hne : e ≠ e') : g ≠ g' := by
  rintro rfl
  unfold Blk at h h'
  rw [h] at h'
  injection h' with h'
  injection h' with _ h3
  exact hne h3
/-- A store into a block of another type leaves a state's box. -/
theorem BoxAt.off {w w' : World} {b g : Nat} {V : SV} {e : TypeId} {cur : List Value} (h : BoxAt w b V) (hg : w.grownBy w' (some g)) (hb : Blk w g e cur) (hne : e ≠ 31) : BoxAt w' b V :=
  h.grown hg (by intro he; injection he with he; exact hb.ne h.blk hne he.symm)
namespace OwnSt
variable {w w' : World} {base : Nat} {V : SV} {s : State}
/-- The cells of a hold. -/
theorem holdAt (h : OwnSt w base V s) {k : Nat} (hk : k < s.holds.length) : ∃ g c cur, V.holds = .slice (some ⟨g, 0, none⟩) s.holds.length c ∧ base ≤ g ∧ Blk w g 46 cur ∧
    w.cell? ⟨g, k * 4, none⟩ = some (.int .i64 (hold s.holds k).order) ∧ w.cell? ⟨g, k * 4 + 1, none⟩ = some (.int .i64 (hold s.holds k).line) ∧ w.cell? ⟨g, k * 4 + 2, none⟩ = some (.int .i64 (hold s.holds k).bin) ∧ w.cell? ⟨g, k * 4 + 3, none⟩ = some (.int .i64 (hold s.holds k).n) := by
  obtain ⟨g, c, cur, h1, h2, h3, h4⟩ := h.holds.at (fun _ => rfl) hk
  have e : s.holds[k] = hold s.holds k := by simp [hold, hk]
  rw [e] at h4
  exact ⟨g, c, cur, h1, h2, h3, h4 0 _ rfl, h4 1 _ rfl, h4 2 _ rfl, h4 3 _ rfl⟩
/-- The cells of a move. -/
theorem moveAt (h : OwnSt w base V s) {k : Nat} (hk : k < s.moves.length) : ∃ g c cur, V.moves = .slice (some ⟨g, 0, none⟩) s.moves.length c ∧ base ≤ g ∧ Blk w g 48 cur ∧
    w.cell? ⟨g, k * 4, none⟩ = some (.int .i64 (Wh.moveAt s.moves k).good) ∧ w.cell? ⟨g, k * 4 + 1, none⟩ = some (.int .i64 (Wh.moveAt s.moves k).src) ∧ w.cell? ⟨g, k * 4 + 2, none⟩ = some (.int .i64 (Wh.moveAt s.moves k).dst) ∧ w.cell? ⟨g, k * 4 + 3, none⟩ = some (.int .i64 (Wh.moveAt s.moves k).n) := by
  obtain ⟨g, c, cur, h1, h2, h3, h4⟩ := h.moves.at (fun _ => rfl) hk
  have e : s.moves[k] = Wh.moveAt s.moves k := by simp [Wh.moveAt, hk]
  rw [e] at h4
  exact ⟨g, c, cur, h1, h2, h3, h4 0 _ rfl, h4 1 _ rfl, h4 2 _ rfl, h4 3 _ rfl⟩
/-- The cells of an order. -/
theorem orderAt (h : OwnSt w base V s) {o : Nat} (ho : o < s.orders.length) : ∃ g c cur, V.orders = .slice (some ⟨g, 0, none⟩) s.orders.length c ∧ base ≤ g ∧ Blk w g 42 cur ∧
    w.cell? ⟨g, o * 2, none⟩ = some (.int .i64 (s.order o).kind) ∧ w.cell? ⟨g, o * 2 + 1, none⟩ = some (V.line o) := by
  have hol : o < (ords s.orders V.lines).length := by rw [ords_length h.llen]; exact ho
  obtain ⟨g, c, cur, h1, h2, h3, h4⟩ := h.orders.at (fun _ => rfl) hol
  have e : (ords s.orders V.lines)[o] = ((s.order o).kind, V.line o) := by
    have := ords_get h.llen ho
    rw [List.getElem?_eq_getElem hol] at this
    exact Option.some.inj this
  rw [e] at h4
  rw [ords_length h.llen] at h1
  exact ⟨g, c, cur, h1, h2, h3, h4 0 _ rfl, h4 1 _ rfl⟩
/-- The cells of a line. -/
theorem lineAt (h : OwnSt w base V s) {o k : Nat} (ho : o < s.orders.length) (hk : k < (s.order o).lines.length) : ∃ g c cur, V.line o = .slice (some ⟨g, 0, none⟩) (s.order o).lines.length c ∧ base ≤ g ∧ Blk w g 44 cur ∧
    w.cell? ⟨g, k * 4, none⟩ = some (.int .i64 (s.line o k).good) ∧ w.cell? ⟨g, k * 4 + 1, none⟩ = some (.int .i64 (s.line o k).want) ∧ w.cell? ⟨g, k * 4 + 2, none⟩ = some (.int .i64 (s.line o k).got) ∧ w.cell? ⟨g, k * 4 + 3, none⟩ = some (.int .i64 (s.line o k).back) := by
  obtain ⟨g, c, cur, h1, h2, h3, h4⟩ := (h.line o ho).at (fun _ => rfl) hk
  have e : (s.order o).lines[k] = s.line o k := by unfold State.line; simp [Wh.lineAt, hk]
  rw [e] at h4
  exact ⟨g, c, cur, h1, h2, h3, h4 0 _ rfl, h4 1 _ rfl, h4 2 _ rfl, h4 3 _ rfl⟩
/-- The cells of what lies in a bin. -/
theorem onAt (h : OwnSt w base V s) {b g : Nat} (hb : b < s.on.length) (hg : g < (rowAt s.on b).length) : ∃ go co cur0 gr cr cur, V.on = .slice (some ⟨go, 0, none⟩) s.on.length co ∧ base ≤ go ∧ Blk w go 23 cur0 ∧ w.cell? ⟨go, b, none⟩ = some (.slice (some ⟨gr, 0, none⟩) (rowAt s.on b).length cr) ∧
    V.row b = .slice (some ⟨gr, 0, none⟩) (rowAt s.on b).length cr ∧ base ≤ gr ∧ Blk w gr 3 cur ∧ w.cell? ⟨gr, g, none⟩ = some (.int .i64 (cell s.on b g)) := by
  have hbl : b < V.rows.length := by rw [h.rlen]; exact hb
  obtain ⟨go, co, cur0, h1, h2, h3, h4⟩ := h.on.at (fun _ => rfl) hbl
  obtain ⟨gr, cr, cur, k1, k2, k3, k4⟩ := (h.row b hb).at (fun _ => rfl) hg
  have e : V.rows[b] = V.row b := by unfold SV.row; simp [hbl]
  have h5 := h4 0 (V.row b) (by rw [e]; rfl)
  have e2 : (rowAt s.on b)[g] = cell s.on b g := by unfold cell intAt; simp [hg]
  have k5 := k4 0 (.int .i64 (cell s.on b g)) (by rw [e2]; rfl)
  rw [Nat.mul_one, Nat.add_zero] at h5 k5
  rw [h.rlen] at h1
  rw [k1] at h5
  exact ⟨go, co, cur0, gr, cr, cur, h1, h2, h3, h5, k1, k2, k3, k5⟩
theorem intAtOwn {v : Value} {l : List Int} (h : Own cInt 1 3 w base v l) {g : Nat} (hg : g < l.length) : ∃ gr c cur, v = .slice (some ⟨gr, 0, none⟩) l.length c ∧ base ≤ gr ∧ Blk w gr 3 cur ∧ w.cell? ⟨gr, g, none⟩ = some (.int .i64 (intAt l g)) := by
  obtain ⟨gr, c, cur, k1, k2, k3, k4⟩ := h.at (fun _ => rfl) hg
  have e2 : l[g] = intAt l g := by unfold intAt; simp [hg]
  have k5 := k4 0 (.int .i64 (intAt l g)) (by rw [e2]; rfl)
  rw [Nat.mul_one, Nat.add_zero] at k5
  exact ⟨gr, c, cur, k1, k2, k3, k5⟩
end OwnSt
end Wh
namespace Wh
open Go Go.RowKit
/-- As relB, but operations may wait for a guard. -/
def relG (l : List Oper) (n : Nat) : Bool :=
  (decide (n = l.length) || (decide (n < l.length) && Region.sinkB .any l.toArray n && Region.chainB .any l.toArray n)) && Region.seqB .any l.toArray (l.length - n) n (heads l.length n) &&
  decide ((l.take n).filterMap (·.dst)).Nodup && (List.range n).all fun i => ((l[i]?).map fun o => o.after.all fun e => !Region.binds .any e || decide (e.on < i)).getD true
section
variable {P : Program} {l : List Oper} {n : Nat} {R : Nat → (Nat → Value) → World → Prop} {Q : Exit → Act → World → Prop} {a : Act} {w : World}
/-- What is to be shown of one operation: it is carried out, or its guard says no. -/
def StepG (P : Program) (l : List Oper) (n : Nat) (R : Nat → (Nat → Value) → World → Prop) (Q : Exit → Act → World → Prop) (a : Act) (w : World) (i : Nat) (o : Oper) : Prop :=
  ∀ f w', Below w.heap.size w w' → Deps n R f w' o →
    (Region.wanted o (yielded l.toArray (fillA a (l.take n) f).tmps) = true ∧ o.wp P (fillA a (l.take n) f) w' (fun a' w'' => ∃ v, a' = (fillA a (l.take n) f).put o.dst v ∧ R i (updO f o.dst v) w'' ∧ Below w'.heap.size w' w'') Q) ∨
    (Region.wanted o (yielded l.toArray (fillA a (l.take n) f).tmps) = false ∧ R i (updO f o.dst undef) w')
def GuardIs (l : List Oper) (o : Oper) (g : Nat → Value) : Prop := match o.guard with | none => True | some (k, b) => ∃ d, (l[k]?.bind (·.dst)) = some d ∧ g d = .bool b
def GuardNo (l : List Oper) (o : Oper) (g : Nat → Value) : Prop := match o.guard with | none => False | some (k, b) => ∃ d, (l[k]?.bind (·.dst)) = some d ∧ g d = .bool (!b)
theorem getD_bool {t : Array Value} {d : Nat} {b : Bool} (h : t.getD d undef = .bool b) : t[d]? = some (.bool b) := by
  rw [Array.getD_eq_getD_getElem?] at h
  cases hc : t[d]? with
  | none => rw [hc] at h; simp [undef] at h
  | some v => rw [hc] at h; simp at h; rw [h]
theorem GuardIs.wanted {l : List Oper} {o : Oper} {t : Array Value} (h : GuardIs l o (fun d => t.getD d undef)) : Region.wanted o (yielded l.toArray t) = true := by
  unfold GuardIs at h
  unfold Region.wanted
  cases hg : o.guard with
  | none => rfl
  | some p =>
    obtain ⟨k, b⟩ := p
    rw [hg] at h
    obtain ⟨d, h1, h2⟩ := h
    have h3 := getD_bool h2
    simp [yielded, h1, h3]
theorem GuardNo.wanted {l : List Oper} {o : Oper} {t : Array Value} (h : GuardNo l o (fun d => t.getD d undef)) : Region.wanted o (yielded l.toArray t) = false := by
  unfold GuardNo at h
  unfold Region.wanted
  cases hg : o.guard with
  | none => rw [hg] at h; exact h.elim
  | some p =>
    obtain ⟨k, b⟩ := p
    rw [hg] at h
    obtain ⟨d, h1, h2⟩ := h
    have h3 := getD_bool h2
    simp [yielded, h1, h3]
theorem StepG.of {i : Nat} {o : Oper} (_hin : l[i]? = some o) (hi : i < n) (hB : relG l n = true) (hsz : ((l.take n).filterMap (·.dst)).all (fun d => decide (d < a.tmps.size)) = true)
    (hsup : ∀ i g g' w, (∀ j o d, Anc l j i → l[j]? = some o → o.dst = some d → g d = g' d) → R i g w → R i g' w)
    (h : ∀ (g : Nat → Value) w', Below w.heap.size w w' → (∀ d, ((l.take n).filterMap (·.dst)).contains d = false → g d = a.tmps.getD d undef) → Deps n R g w' o → (GuardIs l o g ∧ OpRel P o (evL g) w' fun v w'' => R i (updO g o.dst v) w'' ∧ Below w'.heap.size w' w'') ∨ (GuardNo l o g ∧ R i (updO g o.dst undef) w')) :
    StepG P l n R Q a w i o := by
  simp only [relG, Bool.and_eq_true, Bool.or_eq_true, decide_eq_true_eq, List.all_eq_true] at hB
  obtain ⟨_, hback⟩ := hB
  have hback' : ∀ k oe, k < n → l[k]? = some oe → ∀ e ∈ oe.after, Region.binds .any e = true → e.on < k := fun k oe hk hoe e he hbd => by
    have := hback k (List.mem_range.2 hk)
    rw [hoe] at this
    simp only [Option.map_some, Option.getD_some, Array.all_eq_true_iff_forall_mem, Bool.or_eq_true, Bool.not_eq_true', decide_eq_true_eq] at this
    rcases this e he with h | h
    · rw [h] at hbd; cases hbd
    · exact h
  have hanc : ∀ j k, Anc l j k → k < n → j < n := by
    intro j k h
    induction h with
    | self => exact id
    | back ho he hbd hon _ ih =>
      intro h1
      subst hon
      have := hback' _ _ h1 ho _ he hbd
      exact ih (by omega)
  have hsz' : ∀ d ∈ (l.take n).filterMap (·.dst), d < a.tmps.size := fun d hd => by
    have := List.all_eq_true.1 hsz d hd
    simpa using this
  intro f w' hb hd
  have hg : ∀ d ∈ (l.take n).filterMap (·.dst), (fillA a (l.take n) f).tmps.getD d undef = f d := fun d hd => by
    have h1 := fillT_get ((l.take n).filterMap (·.dst)) f a.tmps d
    rw [if_pos (hsz' d hd), if_pos hd] at h1
    unfold fillA
    simp only [Array.getD_eq_getD_getElem?, h1, Option.getD_some]
  have ho : ∀ d, ((l.take n).filterMap (·.dst)).contains d = false → (fillA a (l.take n) f).tmps.getD d undef = a.tmps.getD d undef := fun d hd => by
    have h1 := fillT_get ((l.take n).filterMap (·.dst)) f a.tmps d
    have h2 : d ∉ (l.take n).filterMap (·.dst) := by simpa using hd
    rw [if_neg h2] at h1
    unfold fillA
    simp only [Array.getD_eq_getD_getElem?, h1]
    by_cases hl : d < a.tmps.size
    · rw [if_pos hl]
    · rw [if_neg hl, Array.getElem?_eq_none (Nat.le_of_not_lt hl)]
  have key := h (fun d => (fillA a (l.take n) f).tmps.getD d undef) w' hb ho (fun e he hbd hen => hsup e.on f _ _ (fun j oj d haj hoj hdj => (hg d (dst_mem hoj (hanc _ _ haj hen) hdj)).symm) (hd e he hbd hen))
  have hback2 : ∀ v w'', R i (updO (fun d => (fillA a (l.take n) f).tmps.getD d undef) o.dst v) w'' → R i (updO f o.dst v) w'' := fun v w'' hr => by
    refine hsup i _ _ _ (fun j oj d haj hoj hdj => ?_) hr
    have hjn := hanc _ _ haj hi
    have hmem := dst_mem hoj hjn hdj
    cases hdst : o.dst with
    | none => exact hg d hmem
    | some d0 =>
      unfold updO upd
      simp only
      split
      · rfl
      · exact hg d hmem
  rcases key with ⟨hw, key⟩ | ⟨hw, key⟩
  · rw [← evL_eval] at key
    refine .inl ⟨hw.wanted, Oper.wp_mono ?_ key.wp⟩
    rintro a' w'' ⟨v, rfl, hr, hbw⟩
    exact ⟨v, rfl, hback2 v w'' hr, hbw⟩
  · exact .inr ⟨hw.wanted, hback2 undef w' key⟩


/-- One operation: what it says stays, hangs on what came before it alone, and comes; or its guard says no. -/
def OpG (P : Program) (l : List Oper) (n : Nat) (Rs : List RelP) (a : Act) (w : World) (i : Nat) (o : Oper) (p : RelP) : Prop :=
  (∀ g w1 w2, p g w1 → Below w1.heap.size w1 w2 → p g w2) ∧ (∀ g g' w, (∀ j o d, Anc l j i → l[j]? = some o → o.dst = some d → g d = g' d) → p g w → p g' w) ∧
  ∀ g w', Below w.heap.size w w' → (∀ d, ((l.take n).filterMap (·.dst)).contains d = false → g d = a.tmps.getD d undef) → Deps n (atR Rs) g w' o →
    (GuardIs l o g ∧ OpRel P o (evL g) w' fun v w'' => p (updO g o.dst v) w'' ∧ Below w'.heap.size w' w'') ∨ (GuardNo l o g ∧ p (updO g o.dst undef) w')
def OpsG (P : Program) (l : List Oper) (n : Nat) (Rs : List RelP) (a : Act) (w : World) : Nat → List Oper → List RelP → Prop
  | _, [], _ => True
  | _, _ :: _, [] => False
  | i, o :: r, p :: ps => OpG P l n Rs a w i o p ∧ OpsG P l n Rs a w (i + 1) r ps
theorem OpsG.at {Rs : List RelP} : ∀ {r : List Oper} {ps : List RelP} {k : Nat}, OpsG P l n Rs a w k r ps → ∀ {j : Nat} {o : Oper}, r[j]? = some o → OpG P l n Rs a w (k + j) o (ps.getD j (fun _ _ => True))
  | [], _, _, _, _, _, h => by simp at h
  | _ :: _, [], _, h, _, _, _ => h.elim
  | x :: r, p :: ps, k, h, 0, o, hj => by
    simp at hj
    subst hj
    exact h.1
  | x :: r, p :: ps, k, h, j + 1, o, hj => by
    have := OpsG.at h.2 (j := j) (o := o) (by simpa using hj)
    rw [show k + 1 + j = k + (j + 1) by omega] at this
    simpa using this
theorem OpsG.nil {Rs : List RelP} {i : Nat} {ps : List RelP} : OpsG P l n Rs a w i [] ps := by cases ps <;> trivial
theorem OpsG.cons {Rs : List RelP} {i : Nat} {o : Oper} {r : List Oper} {p : RelP} {ps : List RelP} (h : OpG P l n Rs a w i o p) (h' : OpsG P l n Rs a w (i + 1) r ps) : OpsG P l n Rs a w i (o :: r) (p :: ps) := ⟨h, h'⟩
/-- An operation whose value is known. -/
theorem OpG.val {Rs : List RelP} {i d : Nat} {o : Oper} {c : Value} (hi : l[i]? = some o) (ho : o.dst = some d)
    (hgd : ∀ g w', (∀ d, ((l.take n).filterMap (·.dst)).contains d = false → g d = a.tmps.getD d undef) → Deps n (atR Rs) g w' o → GuardIs l o g)
    (h : ∀ g w', Below w.heap.size w w' → (∀ d, ((l.take n).filterMap (·.dst)).contains d = false → g d = a.tmps.getD d undef) → Deps n (atR Rs) g w' o → (execOp (evL g) o).run P w' = .ok (.value c) w') :
    OpG P l n Rs a w i o (fun g _ => g d = c) := by
  refine ⟨fun _ _ _ h _ => h, fun g g' _ he h => (he i o d (Anc.self i) hi ho).symm.trans h, fun g w' hb hout hd => .inl ⟨hgd g w' hout hd, ?_⟩⟩
  unfold OpRel
  rw [h g w' hb hout hd]
  refine ⟨?_, Below.refl _ _⟩
  rw [ho]
  unfold updO upd
  simp
/-- An operation whose guard says no. -/
theorem OpG.skip {Rs : List RelP} {i d : Nat} {o : Oper} (hi : l[i]? = some o) (ho : o.dst = some d)
    (hgd : ∀ g w', (∀ d, ((l.take n).filterMap (·.dst)).contains d = false → g d = a.tmps.getD d undef) → Deps n (atR Rs) g w' o → GuardNo l o g) :
    OpG P l n Rs a w i o (fun g _ => g d = undef) := by
  refine ⟨fun _ _ _ h _ => h, fun g g' _ he h => (he i o d (Anc.self i) hi ho).symm.trans h, fun g w' hb hout hd => .inr ⟨hgd g w' hout hd, ?_⟩⟩
  rw [ho]
  unfold updO upd
  simp
/-- An operation of whose value something is known, by itself. -/
theorem OpG.one {Rs : List RelP} {i d : Nat} {o : Oper} {p : Value → World → Prop} (hi : l[i]? = some o) (ho : o.dst = some d) (hst : ∀ v w1 w2, p v w1 → Below w1.heap.size w1 w2 → p v w2)
    (hgd : ∀ g w', (∀ d, ((l.take n).filterMap (·.dst)).contains d = false → g d = a.tmps.getD d undef) → Deps n (atR Rs) g w' o → GuardIs l o g)
    (h : ∀ g w', Below w.heap.size w w' → (∀ d, ((l.take n).filterMap (·.dst)).contains d = false → g d = a.tmps.getD d undef) → Deps n (atR Rs) g w' o → OpRel P o (evL g) w' fun v w'' => p v w'' ∧ Below w'.heap.size w' w'') :
    OpG P l n Rs a w i o (fun g w => p (g d) w) := by
  refine ⟨fun g w1 w2 h hb => hst _ _ _ h hb, fun g g' w1 he h => ?_, fun g w' hb hout hd => .inl ⟨hgd g w' hout hd, ?_⟩⟩
  · show p (g' d) w1
    rw [← he i o d (Anc.self i) hi ho]
    exact h
  · have := h g w' hb hout hd
    rw [ho]
    have e : ∀ v, updO g (some d) v d = v := fun v => by unfold updO upd; simp
    simpa only [e] using this
end
end Wh
namespace Wh
open Go Go.RowKit Go.Shelf Go.Proofs

def ActPost (r : State × Int) (w : World) (e : Ending) (w' : World) : Prop := ∃ V, e = .returned (.tuple #[V.val, .int .i64 r.2]) ∧ OwnSt w' w.heap.size V r.1 ∧ Below w.heap.size w w'
theorem actErr {r : State × Int} {c : Int} {w w' : World} (h : r = (dState, c)) (hb : Below w.heap.size w w') : ActPost r w (.returned (.tuple #[nilSV.val, .int .i64 c])) w' :=
  ⟨nilSV, by rw [h], by rw [h]; exact OwnSt.zero _ _, hb⟩
theorem actOk {r : State × Int} {s : State} {V : SV} {w w' : World} (h : r = (s, 0)) (ho : OwnSt w' w.heap.size V s) (hb : Below w.heap.size w w') : ActPost r w (.returned (.tuple #[V.val, .int .i64 0])) w' :=
  ⟨V, by rw [h], by rw [h]; exact ho, hb⟩

/-- A number stored into a cell: the world behind it at hand. -/
theorem wpList_store_int {ops : Array Oper} {rest : List Oper} {o : Oper} {a : Act} {w : World} {Q : Exit → Act → World → Prop} (hgd : o.guard = none) (x y : Operand) (ho : o.op = .store 3 x y) (hn : o.dst = none) (b off : Nat) (u : Value) (q : Int)
    (hx : a.eval x = .pointer (some ⟨b, off, none⟩)) (hy : a.eval y = .int .i64 q) (hc : w.cell? ⟨b, off, none⟩ = some u) (hf : w.frozen? ⟨b, off, none⟩ = false)
    (h : ∀ w', w.setCell ⟨b, off, none⟩ (.int .i64 q) = w' → wpList Tryz.prog ops Q rest a w') : wpList Tryz.prog ops Q (o :: rest) a w :=
  wpList_plain hgd fun K hK => by
    unfold Oper.wp
    simp only [execOp, ho, hx, hy]
    go_simp
    exact hK _ _ (h _ rfl)
end Wh
