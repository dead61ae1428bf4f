/- Texts of the claim, joined: StateM. -/
import Derived.Deep.OwnRows
import Derived.Test.YtnjgkhcnialplaaP19
import Derived.Test.YtnjgkhcnialplaaP14
import Derived.Test.YtnjgkhcnialplaaP21
import Derived.Test.YtnjgkhcnialplaaP24
import Derived.Test.YtnjgkhcnialplaaP31
namespace Wh
open Go Go.RowKit Go.Shelf Go.Proofs
attribute [local go_sem] run_indexAt_letter evL_tmp evL_const evL_func

def nilSV : SV := ⟨nilV, nilV, nilV, nilV, nilV, nilV, nilV, [], []⟩
theorem OwnSt.zero (w : World) (base : Nat) : OwnSt w base nilSV dState :=
  ⟨Own.nil, rfl, (fun b h => by cases h), Own.nil, rfl, (fun o h => by cases h), Own.nil, Own.nil, Own.nil, Own.nil, Own.nil, by unfold apartL nilSV; simp [nilV, Value.ownBlock], List.Pairwise.nil⟩
theorem zeroView (w : World) (B : Nat) : StateV w B nilSV.val dState :=
  ⟨_, _, _, _, _, _, _, rfl, ⟨none, 0, [], rfl, by simp [dState], rfl, At.nil, fun i x h => by simp [dState] at h⟩, ⟨none, 0, [], rfl, by simp [dState], rfl, At.nil, fun i x h => by simp [dState] at h⟩, Sl.nil, Sl.nil, Sl.nil, Sl.nil, Sl.nil⟩
/-- A state of the call's own, right or none. -/
theorem OwnSt.view' {w : World} {base : Nat} {V : SV} {s : State} (h : OwnSt w base V s) (hs : (∃ p, Sane p s) ∨ s = dState) : StateV w w.heap.size V.val s := by
  rcases hs with ⟨p, hs⟩ | rfl
  · exact h.view hs
  · have c0 := h.on.sl (by rw [h.rlen]; simp [dState])
    have hr : V.rows = [] := List.eq_nil_of_length_eq_zero (by rw [h.rlen]; rfl)
    have hl : V.lines = [] := List.eq_nil_of_length_eq_zero (by rw [h.llen]; rfl)
    have c1 := h.orders.sl (by simp [ords, dState])
    obtain ⟨A, c, e, _, _⟩ := c0
    obtain ⟨A1, c1, e1, _, _⟩ := c1
    refine ⟨_, _, _, _, _, _, _, rfl, ⟨A, c, [], by rw [e, hr]; rfl, by simp [dState], rfl, At.nil, fun i x h => by simp [dState] at h⟩, ⟨A1, c1, [], by rw [e1]; simp [ords, dState], by simp [dState], rfl, At.nil, fun i x h => by simp [dState] at h⟩, h.holds.sl (by simp [dState]), h.moves.sl (by simp [dState]), h.inn.sl (by simp [dState]), h.out.sl (by simp [dState]), h.fixed.sl (by simp [dState])⟩
theorem newBox (W : World) : BoxAt (W.alloc (.cells #[.slice none 0 0, .slice none 0 0, .slice none 0 0, .slice none 0 0, .slice none 0 0, .slice none 0 0, .slice none 0 0] 31)) W.heap.size nilSV := Blk.new _ _ _
theorem newBelow {W w3 : World} {o : Obj} (hg : (W.alloc o).grownBy w3 (some W.heap.size)) : Below W.heap.size W w3 := ((Below.refl _ _).alloc (Nat.le_refl _) _).grown hg (by simp) (fun k hk => by injection hk with hk; omega)
/-- A row more. -/
theorem OwnSt.pushRow {w : World} {base : Nat} {V : SV} {s : State} {w1 w2 : World} (h : OwnSt w base V s) (hb : Below w.heap.size w w1) {u : Value} {x : List Int} (hu : Own cInt 1 3 w1 base u x) (hf : ∀ g, u.ownBlock = some g → w.heap.size ≤ g) (hg : w1.grownBy w2 V.on.ownBlock)
    {v' : Value} (hv : Own (fun u : Value => [u]) 1 23 w2 base v' (V.rows ++ [u])) : OwnSt w2 base { V with on := v', rows := V.rows ++ [u] } { s with on := s.on ++ [x] } := by
  have k := h.below hb
  have hlt : ∀ a, a ∈ V.rows ++ [V.inn, V.out, V.fixed] → ∀ g, a.ownBlock = some g → g < w.heap.size := by
    intro a ha g hg
    rcases List.mem_append.1 ha with ha | ha
    · obtain ⟨i, hi, rfl⟩ := List.getElem_of_mem ha
      have hil : i < s.on.length := by rw [← h.rlen]; exact hi
      have e1 : V.row i = V.rows[i] := by unfold SV.row; simp [hi]
      exact ((h.row i hil).size g (by rw [e1]; exact hg)).2
    · simp only [List.mem_cons, List.not_mem_nil, or_false] at ha
      rcases ha with rfl | rfl | rfl
      · exact (h.inn.size g hg).2
      · exact (h.out.size g hg).2
      · exact (h.fixed.size g hg).2
  refine ⟨hv, by simp [h.rlen], fun b hlt => ?_, k.orders.kept hg (k.orders.apart k.on (by decide)), k.llen, fun o ho => (k.line o ho).kept hg ((k.line o ho).apart k.on (by decide)),
    k.holds.kept hg (k.holds.apart k.on (by decide)), k.moves.kept hg (k.moves.apart k.on (by decide)), k.inn.kept hg (k.inn.apart k.on (by decide)), k.out.kept hg (k.out.apart k.on (by decide)), k.fixed.kept hg (k.fixed.apart k.on (by decide)), ?_, k.apartl⟩
  · have hb' : b < s.on.length + 1 := by simpa using hlt
    by_cases hlt : b < s.on.length
    · have e1 : SV.row { V with on := v', rows := V.rows ++ [u] } b = V.row b := by
        unfold SV.row
        simp [List.getD_eq_getElem?_getD, List.getElem?_append_left (show b < V.rows.length by rw [h.rlen]; exact hlt)]
      have e2 : rowAt (s.on ++ [x]) b = rowAt s.on b := by
        unfold rowAt
        simp [List.getD_eq_getElem?_getD, List.getElem?_append_left hlt]
      rw [e1]
      show Own cInt 1 3 w2 base (V.row b) (rowAt (s.on ++ [x]) b)
      rw [e2]
      exact (k.row b hlt).kept hg ((k.row b hlt).apart k.on (by decide))
    · have hb2 : b = s.on.length := by omega
      have e1 : SV.row { V with on := v', rows := V.rows ++ [u] } b = u := by
        unfold SV.row
        rw [hb2, ← h.rlen]
        simp
      have e2 : rowAt (s.on ++ [x]) b = x := by
        unfold rowAt
        rw [hb2]
        simp
      rw [e1]
      show Own cInt 1 3 w2 base u (rowAt (s.on ++ [x]) b)
      rw [e2]
      exact hu.kept hg (hu.apart k.on (by decide))
  · show apartL (V.rows ++ [u] ++ [V.inn, V.out, V.fixed])
    have ha := h.apart
    unfold apartL at ha ⊢
    obtain ⟨p1, p2, p3⟩ := List.pairwise_append.1 ha
    rw [List.append_assoc, List.pairwise_append]
    refine ⟨p1, List.pairwise_cons.2 ⟨fun b hb g hg he => ?_, p2⟩, fun a ha b hb g hg he => ?_⟩
    · have h1 := hlt b (List.mem_append_right _ hb) g he
      have h2 := hf g hg
      omega
    · rcases List.mem_append.1 hb with hb | hb
      · obtain rfl := List.mem_singleton.1 hb
        have h1 := hlt a (List.mem_append_left _ ha) g hg
        have h2 := hf g he
        omega
      · exact p3 a ha b hb g hg he

theorem OwnSt.one {w : World} {base : Nat} {V : SV} {s : State} (h : OwnSt w base V s) : V.cells.all (fun u => u.oneCell') = true := by
  simp [SV.cells, own_one h.on, own_one h.orders, own_one h.holds, own_one h.moves, own_one h.inn, own_one h.out, own_one h.fixed]
theorem made_cells (n : Nat) : (madeCells #[Value.int .i64 0] n).toList = (List.replicate n (0 : Int)).flatMap cInt := by
  induction n with
  | zero => simp [madeCells]
  | succ n ih =>
    rw [List.replicate_succ', List.flatMap_append, ← ih]
    unfold madeCells
    rw [Array.range_succ]
    simp [cInt, Nat.mod_one]
theorem Own.made_zeros (w : World) (n : Nat) (hn : n ≤ 1000) : Own cInt 1 3 (w.alloc (.cells (madeCells #[Value.int .i64 0] n) 3)) w.heap.size (.slice (some ⟨w.heap.size, 0, none⟩) n n) (List.replicate n 0) := by
  have := Own.lit (base := w.heap.size) (enc := cInt) (size := 1) w 3 (madeCells #[Value.int .i64 0] n) (List.replicate n 0) (Nat.le_refl _) (by simp; omega) (fun _ => rfl) (made_cells n)
  simpa using this
theorem sNone (w : World) (B n cs : Nat) (As : Option Addr) (h1 : w.cell? ⟨B, 1, none⟩ = some (.slice As n cs)) (hn : n ≤ 1000) :
    Calls Try.prog 53 #[.pointer (some ⟨B, 0, none⟩)] w fun e w' => ∃ A c, e = .returned (.slice A n c) ∧ Own cInt 1 3 w' w.heap.size (.slice A n c) (List.replicate n 0) ∧ Below w.heap.size w w' := by
  have hmk := run_make_row' (P := Try.prog) 23 3 (.int .i64 0) 8 Try.underlying23 (by kernel_rfl) rfl .i64 .i64 n (by omega) (by omega)
  go_enter Try.func53, Try.ntmps53
  go_wp2_with fail
  go_ret
  exact ⟨_, _, rfl, Own.made_zeros w n hn, (Below.refl _ _).alloc (Nat.le_refl _) _⟩

def begunTo (p : Plan) (k : Nat) : State :=
  ⟨List.replicate k (List.replicate p.sizes.length 0), [], [], [], List.replicate p.sizes.length 0, List.replicate p.sizes.length 0, List.replicate p.sizes.length 0⟩
theorem begunTo_all (p : Plan) : begunTo p p.bins.length = begin p := rfl
theorem begunTo_succ (p : Plan) (k : Nat) : begunTo p (k + 1) = { begunTo p k with on := (begunTo p k).on ++ [List.replicate p.sizes.length 0] } := by
  unfold begunTo
  simp [List.replicate_succ']
/-- The sums of a state that begins. -/
theorem OwnSt.begun {w : World} {base : Nat} {vi vu vx : Value} {z : List Int} (h1 : Own cInt 1 3 w base vi z) (h2 : Own cInt 1 3 w base vu z) (h3 : Own cInt 1 3 w base vx z)
    (h12 : ∀ g, vi.ownBlock = some g → vu.ownBlock ≠ some g) (h13 : ∀ g, vi.ownBlock = some g → vx.ownBlock ≠ some g) (h23 : ∀ g, vu.ownBlock = some g → vx.ownBlock ≠ some g) :
    OwnSt w base ⟨nilV, nilV, nilV, nilV, vi, vu, vx, [], []⟩ ⟨[], [], [], [], z, z, z⟩ :=
  ⟨Own.nil, rfl, (fun b h => by cases h), Own.nil, rfl, (fun o h => by cases h), Own.nil, Own.nil, h1, h2, h3, by
    unfold apartL
    refine List.pairwise_cons.2 ⟨fun b hb => ?_, List.pairwise_cons.2 ⟨fun b hb => ?_, List.pairwise_singleton _ _⟩⟩
    · simp only [List.mem_cons, List.not_mem_nil, or_false] at hb
      rcases hb with rfl | rfl
      · exact h12
      · exact h13
    · obtain rfl := List.mem_singleton.1 hb
      exact h23, List.Pairwise.nil⟩

set_option maxHeartbeats 4000000 in
set_option maxRecDepth 100000 in
theorem sBegin (w : World) (v : Value) (p : Plan) (hp : PlanV w w.heap.size v p) :
    Calls Try.prog 20 #[v] w fun e w' => ∃ V, e = .returned (.tuple #[V.val, .int .i64 (checkPlan p)]) ∧ OwnSt w' w.heap.size V (if checkPlan p = 0 then begin p else dState) ∧ Below w.heap.size w w' := by
  have hP := hp
  obtain ⟨_, _, rfl, ⟨Ab, cb, rfl, hlb, hb⟩, ⟨As, cs, rfl, hls, hs⟩⟩ := hp
  have hb0 : Below w.heap.size w ((w.alloc (.cells #[.slice Ab p.bins.length cb, .slice As p.sizes.length cs] 25)).alloc (.cells #[.slice none 0 0, .slice none 0 0, .slice none 0 0, .slice none 0 0, .slice none 0 0, .slice none 0 0, .slice none 0 0] 31)) := ((Below.refl _ _).alloc (Nat.le_refl _) _).alloc (by simp) _
  have hsz0 : w.heap.size + 1 < ((w.alloc (.cells #[.slice Ab p.bins.length cb, .slice As p.sizes.length cs] 25)).alloc (.cells #[.slice none 0 0, .slice none 0 0, .slice none 0 0, .slice none 0 0, .slice none 0 0, .slice none 0 0, .slice none 0 0] 31)).heap.size := by simp
  have hk0 : Blk ((w.alloc (.cells #[.slice Ab p.bins.length cb, .slice As p.sizes.length cs] 25)).alloc (.cells #[.slice none 0 0, .slice none 0 0, .slice none 0 0, .slice none 0 0, .slice none 0 0, .slice none 0 0, .slice none 0 0] 31)) w.heap.size 25 [.slice Ab p.bins.length cb, .slice As p.sizes.length cs] := (Blk.new _ _ _).alloc _
  have hk1 : BoxAt ((w.alloc (.cells #[.slice Ab p.bins.length cb, .slice As p.sizes.length cs] 25)).alloc (.cells #[.slice none 0 0, .slice none 0 0, .slice none 0 0, .slice none 0 0, .slice none 0 0, .slice none 0 0, .slice none 0 0] 31)) (w.heap.size + 1) nilSV := by
    have := Blk.new (w.alloc (.cells #[.slice Ab p.bins.length cb, .slice As p.sizes.length cs] 25)) 31 #[.slice none 0 0, .slice none 0 0, .slice none 0 0, .slice none 0 0, .slice none 0 0, .slice none 0 0, .slice none 0 0]
    rw [World.size_alloc] at this
    exact this
  have hP' := Lib.hid (fun W (hW : Below w.heap.size w W) => hP.up hW hW.size)
  clear hb hs hP
  go_enter Try.func20, Try.ntmps20
  go_wp2_with fail
  generalize hW0 : (w.alloc (.cells #[.slice Ab p.bins.length cb, .slice As p.sizes.length cs] 25)).alloc _ = W0 at hb0 hsz0 hk0 hk1 ⊢
  clear hW0
  have hk0' := Lib.hid hk0
  have hk1' := Lib.hid hk1
  clear hk0 hk1
  refine (planCheck _ _ p (hP'.out _ hb0)).mono ?_
  rintro e W1 ⟨rfl, hb1⟩
  have hB1 := hb0.trans (hb1.mono hb0.size)
  have hz1 := Nat.lt_of_lt_of_le hsz0 hb1.size
  have hx1 := hk1'.out.below hb1 hsz0
  by_cases hz : checkPlan p = 0
  · obtain ⟨_, hc6, _, hc3⟩ := right_counts hz
    rw [hz]
    have hz' := Lib.hid hz
    clear hz
    have hp1 := (hk0'.out.below hb1 (by omega)).cell (j := 1) rfl
    go_wp2_with fail
    refine (sNone W1 w.heap.size _ _ _ hp1 (by omega)).mono ?_
    rintro e W2 ⟨E2, k2, rfl, ho2, hb2⟩
    have hb12 := hb1.trans (hb2.mono hb1.size)
    have hp2 := (hk0'.out.below hb12 (by omega)).cell (j := 1) rfl
    clear hp1
    go_wp2_with fail
    refine (sNone W2 w.heap.size _ _ _ hp2 (by omega)).mono ?_
    rintro e W3 ⟨E3, k3, rfl, ho3, hb3⟩
    have hb13 := hb12.trans (hb3.mono hb12.size)
    have hp3 := (hk0'.out.below hb13 (by omega)).cell (j := 1) rfl
    clear hp2
    go_wp2_with fail
    refine (sNone W3 w.heap.size _ _ _ hp3 (by omega)).mono ?_
    rintro e W4 ⟨E4, k4, rfl, ho4, hb4⟩
    have hb14 := hb13.trans (hb4.mono hb13.size)
    clear hp3
    have hO := OwnSt.begun ((ho2.below (hb3.trans (hb4.mono hb3.size))).from_ hb1.size) ((ho3.below hb4).from_ (hb12).size) (ho4.from_ hb13.size)
      (fun g h h' => by have := (ho2.size g h).2; have := (ho3.size g h').1; omega) (fun g h h' => by have := (ho2.size g h).2; have := (ho4.size g h').1; have := hb3.size; omega) (fun g h h' => by have := (ho3.size g h).2; have := (ho4.size g h').1; omega)
    have hone := hO.one
    have hO' := Lib.hid hO
    clear hO ho2 ho3 ho4
    have hnb : BoxAt (W4.alloc (.cells #[.slice none 0 0, .slice none 0 0, .slice none 0 0, .slice none 0 0, .slice none 0 0, .slice none 0 0, .slice none 0 0] 31)) W4.heap.size nilSV := Blk.new _ _ _
    go_wp2_with (refine wpList_store_state rfl (.tmp 6) (.tmp 20) rfl rfl W4.heap.size nilSV ⟨nilV, nilV, nilV, nilV, .slice E2 p.sizes.length k2, .slice E3 p.sizes.length k3, .slice E4 p.sizes.length k4, [], []⟩ hnb rfl rfl hone (fun w5 hbox5 hg5 => ?_); refine Hid.out ?_)
    unfold Hid
    have hlb : W0.heap.size ≤ W4.heap.size := hb14.size
    have hb15 : Below W0.heap.size W0 w5 := (hb14.alloc hb14.size _).grown hg5 (by have := hb14.size; simp; omega) (fun k hk => by injection hk with hk; omega)
    have hO5 := (hO'.out.alloc (.cells #[.slice none 0 0, .slice none 0 0, .slice none 0 0, .slice none 0 0, .slice none 0 0, .slice none 0 0, .slice none 0 0] 31)).keptBy hg5 hnb.blk (by decide) (by decide) (by decide) (by decide) (by decide) (by decide)
    have hO5' := Lib.hid hO5
    have hbox5' := Lib.hid hbox5
    have hpl0 := (hk0'.out.below hb15 (by omega)).cell (j := 0) rfl
    clear hO5 hbox5 hO' hnb hg5 hone hb2 hb3 hb4 hb12 hb13 hb14
    generalize W4.heap.size = b at hlb hbox5' ⊢
    go_wp2_with fail
    go_loopw [24] (fun i wr => ∃ (k : Nat) (V : SV), k ≤ p.bins.length ∧ i = .int .i64 k ∧ OwnSt wr W0.heap.size V (begunTo p k) ∧ BoxAt wr b V ∧ Below W0.heap.size W0 wr) (fun i _ => p.bins.length - (intOf i).toNat)
    case atStart => exact ⟨0, _, Nat.zero_le _, rfl, hO5'.out, hbox5'.out, hb15⟩
    case round =>
      clear hpl0 hO5' hbox5' hb15
      obtain ⟨k, V, hk, rfl, hOw, hbx, hbw⟩ := hrel
      have hOw' := Lib.hid hOw
      have hbx' := Lib.hid hbx
      have hB := hb0.trans (hbw.mono hb0.size)
      have hbxl := hbx.lt
      clear hOw hbx
      by_cases hlt : k < p.bins.length
      · go_wp2_with fail
        refine wp_region_ops 5 [
          fun g _ => g 26 = .pointer (some ⟨b, 0, none⟩),
          fun g _ => g 27 = V.on,
          fun g _ => g 28 = .func (.func 53) #[] #[.pointer (some ⟨w.heap.size, 0, none⟩)],
          fun g w' => (fun v w' => Own cInt 1 3 w' wr.heap.size v (List.replicate p.sizes.length 0)) (g 29) w',
          fun g w' => (fun v w' => ∃ bb u, v = .slice (some ⟨bb, 0, none⟩) 1 1 ∧ w'.cell? ⟨bb, 0, none⟩ = some u ∧ bb < w'.heap.size ∧ Own cInt 1 3 w' wr.heap.size u (List.replicate p.sizes.length 0)) (g 30) w'] (by kernel_rfl) (by kernel_rfl) rfl (by kernel_rfl) ?_ (fun f w2 hb2 hR => ?_)
        simp only [List.take_succ_cons, List.take_zero]
        refine OpsOK.cons (OpOK.val rfl rfl (fun g w' hb ho hd => ?_)) ?_
        · have e1 := ho 6 rfl
          go_simp
        refine OpsOK.cons (OpOK.val rfl rfl (fun g w' hb ho hd => ?_)) ?_
        · have e1 : g 26 = .pointer (some ⟨b, 0, none⟩) := hd ⟨0, .data⟩ (by simp) rfl (by decide)
          have x0 := (hbx'.out.below hb hbxl).cells.1
          go_simp
        refine OpsOK.cons (OpOK.val rfl rfl (fun g w' hb ho hd => ?_)) ?_
        · have e1 := ho 5 rfl
          go_simp
        refine OpsOK.cons (OpOK.one (d := 29) (p := (fun v w' => Own cInt 1 3 w' wr.heap.size v (List.replicate p.sizes.length 0))) rfl rfl (fun v w1 w2 h hb => h.below hb) (fun g w' hb ho hd => ?_)) ?_
        · have e1 : g 28 = .func (.func 53) #[] #[.pointer (some ⟨w.heap.size, 0, none⟩)] := hd ⟨2, .data⟩ (by simp) rfl (by decide)
          have hp1 := (hk0'.out.below (hbw.trans (hb.mono hbw.size)) (by omega)).cell (j := 1) rfl
          unfold OpRel
          go_simp
          refine (sNone w' w.heap.size _ _ _ hp1 (by omega)).mono ?_
          rintro e w2 ⟨E, kc, rfl, ho2, hb2⟩
          exact ⟨_, rfl, ho2.from_ hb.size, hb2⟩
        refine OpsOK.cons (OpOK.one (d := 30) (p := (fun v w' => ∃ bb u, v = .slice (some ⟨bb, 0, none⟩) 1 1 ∧ w'.cell? ⟨bb, 0, none⟩ = some u ∧ bb < w'.heap.size ∧ Own cInt 1 3 w' wr.heap.size u (List.replicate p.sizes.length 0))) rfl rfl (fun v w1 w2 h hb => ?_) (fun g w' hb ho hd => ?_)) ?_
        · obtain ⟨bb, u, h1, h2, h3, h4⟩ := h
          exact ⟨bb, u, h1, (hb.cell (p := ⟨bb, 0, none⟩) h3).trans h2, Nat.lt_of_lt_of_le h3 hb.size, h4.below hb⟩
        · have e1 : Own cInt 1 3 w' wr.heap.size (g 29) (List.replicate p.sizes.length 0) := hd ⟨3, .data⟩ (by simp) rfl (by decide)
          obtain ⟨E, kc, e2⟩ := e1.isSlice
          have e1' := Lib.hid e1
          clear e1
          unfold OpRel
          go_simp
          have e3 : Own cInt 1 3 w' wr.heap.size (.slice E p.sizes.length kc) (List.replicate p.sizes.length 0) := by
            have := e1'.out
            rw [e2] at this
            simpa using this
          exact ⟨e3.alloc _, (Below.refl _ _).alloc (Nat.le_refl _) _⟩
        exact OpsOK.nil
        obtain ⟨r0, r1, r2, r3, ⟨bb, u, r4, c4, l4, o4⟩, _⟩ := hR
        simp only [fillA, fillT, List.take_succ_cons, List.take_zero, List.drop_succ_cons, List.drop_zero, List.filterMap_cons, List.filterMap_nil, List.foldl_cons, List.foldl_nil, List.setIfInBounds_toArray, List.set_cons_zero, List.set_cons_succ, r0, r1, r2, r4]
        clear r0 r1 r2 r3 r4
        have hOw2 := hOw'.out.below hb2
        have huf : ∀ g, Value.ownBlock u = some g → wr.heap.size ≤ g := fun g hg => (o4.size g hg).1
        refine wpList_push _ rfl (.tmp 27) (.tmp 30) 26 23 rfl W0.heap.size _ 1 24 Try.underlying26 infoInts rfl (by decide) (by decide) V.on V.rows u rfl hOw2.on ⟨bb, 0, none⟩ 1 rfl rfl (fun j x hj => by
          cases j with
          | zero => simp only [List.getElem?_cons_zero, Option.some.injEq] at hj; subst hj; exact c4
          | succ j => simp at hj) (one_val _ (own_one o4)) (by rw [hOw2.rlen]; simp [begunTo]; omega) (Nat.le_trans hbw.size hb2.size) ?_
        intro v7 w7 hown7 hg7 hat7 hbel7
        have hO7 := hOw'.out.pushRow hb2 (o4.from_ hbw.size) huf hg7 hown7
        have hBx7 : BoxAt w7 b V := (hbx'.out.below hb2 hbxl).grown hg7 (fun he => by
          rcases hOw2.on.notBox (hbx'.out.below hb2 hbxl).blk (by decide) with h | h
          · rw [h] at he; cases he
          · exact h he.symm)
        have hbw7 : Below W0.heap.size W0 w7 := (hbw.trans (hb2.mono hbw.size)).trans hbel7
        have hO8 := hO7.box hBx7 0 v7
        have hBx8 := hBx7.setOn v7
        rw [← begunTo_succ] at hO8
        have hbw8 := hbw7.setCell (p := ⟨b, 0, none⟩) hlb v7
        obtain ⟨Av, cv, hv7⟩ := hown7.isSlice
        simp only [List.length_append, List.length_cons, List.length_nil, Nat.zero_add] at hv7
        have hO8' := Lib.hid hO8
        have hBx8' := Lib.hid hBx8
        have q1 := hBx7.cells.1
        have qf := hBx7.frozen 0
        clear hO8 hBx8 hO7 hBx7 hown7 hg7 hat7 hbel7 huf hOw2 o4 c4
        subst hv7
        go_wp2_with fail
        go_roundw
        case rel => exact ⟨k + 1, _, by omega, by go_num, hO8'.out, hBx8'.out, hbw8⟩
        case measure => simp [intOf]; omega
      · obtain rfl : k = p.bins.length := by omega
        have hR1 := hk1'.out.below hbw hsz0
        obtain ⟨b0, b1, b2, b3, b4, b5, b6⟩ := hbx'.out.cells
        have hone := hOw'.out.one
        go_wp2_with (refine wpList_store_state rfl (.tmp 2) (.tmp 34) rfl rfl (w.heap.size + 1) nilSV V hR1 rfl rfl hone (fun w9 hbox9 hg9 => ?_))
        have hO9 := hOw'.out.keptBy hg9 hR1.blk (by decide) (by decide) (by decide) (by decide) (by decide) (by decide)
        obtain ⟨p0, p1, p2, p3, p4, p5, p6⟩ := hbox9.cells
        have hfin : Below w.heap.size w w9 := hB.grown hg9 hB.size (fun k hk => by injection hk with hk; omega)
        have hsB : w.heap.size ≤ W0.heap.size := hb0.size
        clear b0 b1 b2 b3 b4 b5 b6
        go_wp2_with fail
        exact bodyPost_ret (v := .tuple #[V.val, .int .i64 0]) (by simp [results, Try.results20, go_sem, SV.val, p0, p1, p2, p3, p4, p5, p6]) rfl ⟨V, rfl, hO9.from_ hsB, hfin⟩
  · have hne : (checkPlan p != 0) = true := by simpa using hz
    go_wp2_with (refine wpList_store_state rfl (.tmp 2) (.tmp 11) rfl rfl (w.heap.size + 1) nilSV nilSV hx1 rfl rfl rfl (fun w9 hbox9 hg9 => ?_))
    obtain ⟨p0, p1, p2, p3, p4, p5, p6⟩ := hbox9.cells
    have hfin : Below w.heap.size w w9 := hB1.grown hg9 hB1.size (fun k hk => by injection hk with hk; omega)
    go_wp2_with fail
    refine bodyPost_ret (v := .tuple #[nilSV.val, .int .i64 (checkPlan p)]) (by simp [results, Try.results20, go_sem, SV.val, p0, p1, p2, p3, p4, p5, p6]) rfl ⟨nilSV, rfl, ?_, hfin⟩
    exact OwnSt.zero _ _

/-- What BeginOf has made by now. -/
structure RB (w : World) (base : Nat) (V : SV) (z : List Int) (k : Nat) : Prop where
  on : Own (fun u : Value => [u]) 1 23 w base V.on V.rows
  rlen : V.rows.length = k
  row : ∀ b, b < k → Own cInt 1 3 w base (V.row b) z
  inn : Own cInt 1 3 w base V.inn z
  out : Own cInt 1 3 w base V.out z
  fixed : Own cInt 1 3 w base V.fixed z
  none1 : V.orders = nilV
  none2 : V.holds = nilV
  none3 : V.moves = nilV
namespace RB
variable {w w' : World} {base : Nat} {V : SV} {z : List Int} {k : Nat}
theorem below (h : RB w base V z k) (hb : Below w.heap.size w w') : RB w' base V z k :=
  ⟨h.on.below hb, h.rlen, fun b hk => (h.row b hk).below hb, h.inn.below hb, h.out.below hb, h.fixed.below hb, h.none1, h.none2, h.none3⟩
theorem keptBy (h : RB w base V z k) {b : Nat} {t : TypeId} {cur : List Value} (hg : w.grownBy w' (some b)) (hb : Blk w b t cur) (h1 : 23 ≠ t) (h2 : 3 ≠ t) : RB w' base V z k :=
  ⟨h.on.kept hg (h.on.notBox hb h1), h.rlen, fun b hk => (h.row b hk).kept hg ((h.row b hk).notBox hb h2), h.inn.kept hg (h.inn.notBox hb h2), h.out.kept hg (h.out.notBox hb h2), h.fixed.kept hg (h.fixed.notBox hb h2), h.none1, h.none2, h.none3⟩
theorem from_ (h : RB w base V z k) {base' : Nat} (hb : base' ≤ base) : RB w base' V z k :=
  ⟨h.on.from_ hb, h.rlen, fun b hk => (h.row b hk).from_ hb, h.inn.from_ hb, h.out.from_ hb, h.fixed.from_ hb, h.none1, h.none2, h.none3⟩
theorem one (h : RB w base V z k) : V.cells.all (fun u => u.oneCell') = true := by
  simp [SV.cells, own_one h.on, own_one h.inn, own_one h.out, own_one h.fixed, h.none1, h.none2, h.none3, show nilV.oneCell' = true from rfl]
theorem push (h : RB w base V z k) {u v' : Value} (hu : Own cInt 1 3 w base u z) (hg : w.grownBy w' V.on.ownBlock) (hv : Own (fun u : Value => [u]) 1 23 w' base v' (V.rows ++ [u])) : RB w' base { V with on := v', rows := V.rows ++ [u] } z (k + 1) := by
  refine ⟨hv, by simp [h.rlen], fun b hb => ?_, h.inn.kept hg (h.inn.apart h.on (by decide)), h.out.kept hg (h.out.apart h.on (by decide)), h.fixed.kept hg (h.fixed.apart h.on (by decide)), h.none1, h.none2, h.none3⟩
  by_cases hlt : b < k
  · have e1 : SV.row { V with on := v', rows := V.rows ++ [u] } b = V.row b := by
      unfold SV.row
      simp [List.getD_eq_getElem?_getD, List.getElem?_append_left (show b < V.rows.length by rw [h.rlen]; exact hlt)]
    rw [e1]
    exact (h.row b hlt).kept hg ((h.row b hlt).apart h.on (by decide))
  · have hb2 : b = k := by omega
    have e1 : SV.row { V with on := v', rows := V.rows ++ [u] } b = u := by
      unfold SV.row
      rw [hb2, ← h.rlen]
      simp
    rw [e1]
    exact hu.kept hg (hu.apart h.on (by decide))
theorem view {p : Plan} (h : RB w base V (List.replicate p.sizes.length 0) p.bins.length) (hc : p.bins.length ≤ 1000) (hc2 : p.sizes.length ≤ 1000) : StateV w w.heap.size V.val (begin p) := by
  obtain ⟨A, c, e, _, hA⟩ := h.on.sl (by rw [h.rlen]; omega)
  have hrl := h.rlen
  refine ⟨_, _, _, _, _, _, _, rfl, ⟨A, c, V.rows, by rw [e, hrl]; simp [begin], by simp [begin]; omega, by simp [begin, hrl], ?_, fun i x hi => ?_⟩, ?_, ?_, ?_, h.inn.sl (by simp; omega), h.out.sl (by simp; omega), h.fixed.sl (by simp; omega)⟩
  · have : V.rows.flatMap (fun u => [u]) = V.rows := by simp
    rw [this] at hA
    exact hA
  · have hi' : (List.replicate p.bins.length (List.replicate p.sizes.length (0 : Int)))[i]? = some x := hi
    rw [List.getElem?_replicate] at hi'
    by_cases hlt : i < p.bins.length
    · rw [if_pos hlt] at hi'
      injection hi' with hi'
      subst hi'
      refine ⟨V.row i, ?_, (h.row i hlt).sl (by simp; omega)⟩
      unfold SV.row
      simp [show i < V.rows.length by omega]
    · rw [if_neg hlt] at hi'
      cases hi'
  · rw [h.none1]; exact ⟨none, 0, [], rfl, by simp [begin], rfl, At.nil, fun i x h => by simp [begin] at h⟩
  · rw [h.none2]; exact Sl.nil
  · rw [h.none3]; exact Sl.nil
end RB

set_option maxHeartbeats 4000000 in
set_option maxRecDepth 100000 in
theorem rBeginOf (w : World) (v : Value) (p : Plan) (hp : PlanV w w.heap.size v p) (hz : checkPlan p = 0) :
    Calls Try.prog 22 #[v] w fun e w' => ∃ V, e = .returned V.val ∧ RB w' w.heap.size V (List.replicate p.sizes.length 0) p.bins.length ∧ Below w.heap.size w w' := by
  obtain ⟨_, hc6, _, hc3⟩ := right_counts hz
  clear hz
  have hP := hp
  obtain ⟨_, _, rfl, ⟨Ab, cb, rfl, hlb, hb⟩, ⟨As, cs, rfl, hls, hs⟩⟩ := hp
  have hb0 : Below w.heap.size w ((w.alloc (.cells #[.slice Ab p.bins.length cb, .slice As p.sizes.length cs] 25)).alloc (.cells #[.slice none 0 0, .slice none 0 0, .slice none 0 0, .slice none 0 0, .slice none 0 0, .slice none 0 0, .slice none 0 0] 31)) := ((Below.refl _ _).alloc (Nat.le_refl _) _).alloc (by simp) _
  have hsz0 : w.heap.size + 1 < ((w.alloc (.cells #[.slice Ab p.bins.length cb, .slice As p.sizes.length cs] 25)).alloc (.cells #[.slice none 0 0, .slice none 0 0, .slice none 0 0, .slice none 0 0, .slice none 0 0, .slice none 0 0, .slice none 0 0] 31)).heap.size := by simp
  have hk0 : Blk ((w.alloc (.cells #[.slice Ab p.bins.length cb, .slice As p.sizes.length cs] 25)).alloc (.cells #[.slice none 0 0, .slice none 0 0, .slice none 0 0, .slice none 0 0, .slice none 0 0, .slice none 0 0, .slice none 0 0] 31)) w.heap.size 25 [.slice Ab p.bins.length cb, .slice As p.sizes.length cs] := (Blk.new _ _ _).alloc _
  have hk1 : BoxAt ((w.alloc (.cells #[.slice Ab p.bins.length cb, .slice As p.sizes.length cs] 25)).alloc (.cells #[.slice none 0 0, .slice none 0 0, .slice none 0 0, .slice none 0 0, .slice none 0 0, .slice none 0 0, .slice none 0 0] 31)) (w.heap.size + 1) nilSV := by
    have := Blk.new (w.alloc (.cells #[.slice Ab p.bins.length cb, .slice As p.sizes.length cs] 25)) 31 #[.slice none 0 0, .slice none 0 0, .slice none 0 0, .slice none 0 0, .slice none 0 0, .slice none 0 0, .slice none 0 0]
    rw [World.size_alloc] at this
    exact this
  clear hb hs hP
  have hmk := run_make_row' (P := Try.prog) 23 3 (.int .i64 0) 8 Try.underlying23 (by kernel_rfl) rfl .i64 .i64 p.sizes.length (by omega) (by omega)
  have hmk' := Lib.hid hmk
  clear hmk
  go_enter Try.func22, Try.ntmps22
  go_wp2_with fail
  generalize hW0 : (w.alloc (.cells #[.slice Ab p.bins.length cb, .slice As p.sizes.length cs] 25)).alloc _ = W0 at hb0 hsz0 hk0 hk1 ⊢
  clear hW0
  have hk0' := Lib.hid hk0
  have hk1' := Lib.hid hk1
  clear hk0 hk1
  refine wp_region_ops 14 [fun gq _ => gq 5 = .pointer (some ⟨w.heap.size, 1, none⟩), fun gq _ => gq 6 = .slice As p.sizes.length cs, fun gq _ => gq 7 = .int .i64 p.sizes.length, fun gq w' => (fun v w' => Own cInt 1 3 w' W0.heap.size v (List.replicate p.sizes.length 0)) (gq 8) w', fun gq _ => gq 9 = .pointer (some ⟨w.heap.size, 1, none⟩), fun gq _ => gq 10 = .slice As p.sizes.length cs, fun gq _ => gq 11 = .int .i64 p.sizes.length, fun gq w' => (fun v w' => Own cInt 1 3 w' W0.heap.size v (List.replicate p.sizes.length 0)) (gq 12) w', fun gq _ => gq 13 = .pointer (some ⟨w.heap.size, 1, none⟩), fun gq _ => gq 14 = .slice As p.sizes.length cs, fun gq _ => gq 15 = .int .i64 p.sizes.length, fun gq w' => (fun v w' => Own cInt 1 3 w' W0.heap.size v (List.replicate p.sizes.length 0)) (gq 16) w', fun gq w' => (fun v w' => ∃ u8 u12 u16, v = .agg #[.slice none 0 0, .slice none 0 0, .slice none 0 0, .slice none 0 0, u8, u12, u16] ∧ Own cInt 1 3 w' W0.heap.size u8 (List.replicate p.sizes.length 0) ∧ Own cInt 1 3 w' W0.heap.size u12 (List.replicate p.sizes.length 0) ∧ Own cInt 1 3 w' W0.heap.size u16 (List.replicate p.sizes.length 0)) (gq 17) w', fun gq w' => (fun v w' => ∃ b, v = .pointer (some ⟨b, 0, none⟩) ∧ W0.heap.size ≤ b ∧ BoxAt w' b nilSV) (gq 3) w'] (by kernel_rfl) (by kernel_rfl) rfl (by kernel_rfl) ?_ (fun f w2 hb2 hR => ?_)
  simp only [List.take_succ_cons, List.take_zero]
  refine OpsOK.cons (OpOK.val rfl rfl (fun gq w' hb ho hd => ?_)) ?_
  · have e1 := ho 1 rfl
    go_simp
  refine OpsOK.cons (OpOK.val rfl rfl (fun gq w' hb ho hd => ?_)) ?_
  · have e5 : gq 5 = .pointer (some ⟨w.heap.size, 1, none⟩) := hd ⟨0, .data⟩ (by simp) rfl (by decide)
    have x1 := (hk0'.out.below hb (by omega)).cell (j := 1) rfl
    go_simp
  refine OpsOK.cons (OpOK.val rfl rfl (fun gq w' hb ho hd => ?_)) ?_
  · have e6 : gq 6 = .slice As p.sizes.length cs := hd ⟨1, .data⟩ (by simp) rfl (by decide)
    go_simp
  refine OpsOK.cons (OpOK.one (d := 8) (p := (fun v w' => Own cInt 1 3 w' W0.heap.size v (List.replicate p.sizes.length 0))) rfl rfl (fun v w1 w2 h hb => h.below hb) (fun gq w' hb ho hd => ?_)) ?_
  · have e7 : gq 7 = .int .i64 p.sizes.length := hd ⟨2, .data⟩ (by simp) rfl (by decide)
    have hmk := hmk'.out
    unfold OpRel
    go_simp
    exact ⟨(Own.made_zeros w' p.sizes.length (by omega)).from_ hb.size, (Below.refl _ _).alloc (Nat.le_refl _) _⟩
  refine OpsOK.cons (OpOK.val rfl rfl (fun gq w' hb ho hd => ?_)) ?_
  · have e1 := ho 1 rfl
    go_simp
  refine OpsOK.cons (OpOK.val rfl rfl (fun gq w' hb ho hd => ?_)) ?_
  · have e9 : gq 9 = .pointer (some ⟨w.heap.size, 1, none⟩) := hd ⟨4, .data⟩ (by simp) rfl (by decide)
    have x1 := (hk0'.out.below hb (by omega)).cell (j := 1) rfl
    go_simp
  refine OpsOK.cons (OpOK.val rfl rfl (fun gq w' hb ho hd => ?_)) ?_
  · have e10 : gq 10 = .slice As p.sizes.length cs := hd ⟨5, .data⟩ (by simp) rfl (by decide)
    go_simp
  refine OpsOK.cons (OpOK.one (d := 12) (p := (fun v w' => Own cInt 1 3 w' W0.heap.size v (List.replicate p.sizes.length 0))) rfl rfl (fun v w1 w2 h hb => h.below hb) (fun gq w' hb ho hd => ?_)) ?_
  · have e11 : gq 11 = .int .i64 p.sizes.length := hd ⟨6, .data⟩ (by simp) rfl (by decide)
    have hmk := hmk'.out
    unfold OpRel
    go_simp
    exact ⟨(Own.made_zeros w' p.sizes.length (by omega)).from_ hb.size, (Below.refl _ _).alloc (Nat.le_refl _) _⟩
  refine OpsOK.cons (OpOK.val rfl rfl (fun gq w' hb ho hd => ?_)) ?_
  · have e1 := ho 1 rfl
    go_simp
  refine OpsOK.cons (OpOK.val rfl rfl (fun gq w' hb ho hd => ?_)) ?_
  · have e13 : gq 13 = .pointer (some ⟨w.heap.size, 1, none⟩) := hd ⟨8, .data⟩ (by simp) rfl (by decide)
    have x1 := (hk0'.out.below hb (by omega)).cell (j := 1) rfl
    go_simp
  refine OpsOK.cons (OpOK.val rfl rfl (fun gq w' hb ho hd => ?_)) ?_
  · have e14 : gq 14 = .slice As p.sizes.length cs := hd ⟨9, .data⟩ (by simp) rfl (by decide)
    go_simp
  refine OpsOK.cons (OpOK.one (d := 16) (p := (fun v w' => Own cInt 1 3 w' W0.heap.size v (List.replicate p.sizes.length 0))) rfl rfl (fun v w1 w2 h hb => h.below hb) (fun gq w' hb ho hd => ?_)) ?_
  · have e15 : gq 15 = .int .i64 p.sizes.length := hd ⟨10, .data⟩ (by simp) rfl (by decide)
    have hmk := hmk'.out
    unfold OpRel
    go_simp
    exact ⟨(Own.made_zeros w' p.sizes.length (by omega)).from_ hb.size, (Below.refl _ _).alloc (Nat.le_refl _) _⟩
  refine OpsOK.cons (OpOK.one (d := 17) (p := (fun v w' => ∃ u8 u12 u16, v = .agg #[.slice none 0 0, .slice none 0 0, .slice none 0 0, .slice none 0 0, u8, u12, u16] ∧ Own cInt 1 3 w' W0.heap.size u8 (List.replicate p.sizes.length 0) ∧ Own cInt 1 3 w' W0.heap.size u12 (List.replicate p.sizes.length 0) ∧ Own cInt 1 3 w' W0.heap.size u16 (List.replicate p.sizes.length 0))) rfl rfl (fun v w1 w2 h hb => let ⟨a, b, c, h0, h1, h2, h3⟩ := h; ⟨a, b, c, h0, h1.below hb, h2.below hb, h3.below hb⟩) (fun gq w' hb ho hd => ?_)) ?_
  · have e8 : Own cInt 1 3 w' W0.heap.size (gq 8) (List.replicate p.sizes.length 0) := hd ⟨3, .data⟩ (by simp) rfl (by decide)
    have e12 : Own cInt 1 3 w' W0.heap.size (gq 12) (List.replicate p.sizes.length 0) := hd ⟨7, .data⟩ (by simp) rfl (by decide)
    have e16 : Own cInt 1 3 w' W0.heap.size (gq 16) (List.replicate p.sizes.length 0) := hd ⟨11, .data⟩ (by simp) rfl (by decide)
    obtain ⟨E2, k2, s8⟩ := e8.isSlice
    obtain ⟨E3, k3, s12⟩ := e12.isSlice
    obtain ⟨E4, k4, s16⟩ := e16.isSlice
    simp only [List.length_replicate] at s8 s12 s16
    rw [s8] at e8
    rw [s12] at e12
    rw [s16] at e16
    have e' := Lib.hid (And.intro e8 (And.intro e12 e16))
    clear e8 e12 e16
    unfold OpRel
    go_simp
    exact ⟨⟨_, _, _, ⟨rfl, rfl, rfl⟩, e'.out.1, e'.out.2.1, e'.out.2.2⟩, Below.refl _ _⟩
  refine OpsOK.cons (OpOK.one (d := 3) (p := (fun v w' => ∃ b, v = .pointer (some ⟨b, 0, none⟩) ∧ W0.heap.size ≤ b ∧ BoxAt w' b nilSV)) rfl rfl (fun v w1 w2 h hb => let ⟨b, h1, h2, h3⟩ := h; ⟨b, h1, h2, h3.below hb h3.lt⟩) (fun gq w' hb ho hd => ?_)) ?_
  · unfold OpRel
    go_simp
    exact ⟨⟨hb.size, Blk.new _ _ _⟩, (Below.refl _ _).alloc (Nat.le_refl _) _⟩
  exact OpsOK.nil
  obtain ⟨r5, r6, r7, r8, r9, r10, r11, r12, r13, r14, r15, r16, r17, r3, _⟩ := hR
  replace r8 : Own cInt 1 3 w2 W0.heap.size (f 8) (List.replicate p.sizes.length 0) := r8
  replace r12 : Own cInt 1 3 w2 W0.heap.size (f 12) (List.replicate p.sizes.length 0) := r12
  replace r16 : Own cInt 1 3 w2 W0.heap.size (f 16) (List.replicate p.sizes.length 0) := r16
  replace r17 : ∃ u8 u12 u16, (f 17) = .agg #[.slice none 0 0, .slice none 0 0, .slice none 0 0, .slice none 0 0, u8, u12, u16] ∧ Own cInt 1 3 w2 W0.heap.size u8 (List.replicate p.sizes.length 0) ∧ Own cInt 1 3 w2 W0.heap.size u12 (List.replicate p.sizes.length 0) ∧ Own cInt 1 3 w2 W0.heap.size u16 (List.replicate p.sizes.length 0) := r17
  replace r3 : ∃ b, (f 3) = .pointer (some ⟨b, 0, none⟩) ∧ W0.heap.size ≤ b ∧ BoxAt w2 b nilSV := r3
  simp only [fillA, fillT, List.take_succ_cons, List.take_zero, List.drop_succ_cons, List.drop_zero, List.filterMap_cons, List.filterMap_nil, List.foldl_cons, List.foldl_nil, List.setIfInBounds_toArray, List.set_cons_zero, List.set_cons_succ, r5, r6, r7, r9, r10, r11, r13, r14, r15]
  clear r5 r6 r7 r9 r10 r11 r13 r14 r15
  obtain ⟨u8, u12, u16, t17, o8, o12, o16⟩ := r17
  obtain ⟨b, t3, hlb, hbox⟩ := r3
  simp only [t17, t3]
  clear t17 t3 r8 r12 r16
  have hR0 : RB w2 W0.heap.size ⟨nilV, nilV, nilV, nilV, u8, u12, u16, [], []⟩ (List.replicate p.sizes.length 0) 0 := ⟨Own.nil, rfl, (fun b h => by omega), o8, o12, o16, rfl, rfl, rfl⟩
  have hone := hR0.one
  obtain ⟨E2, k2, s8⟩ := o8.isSlice
  obtain ⟨E3, k3, s12⟩ := o12.isSlice
  obtain ⟨E4, k4, s16⟩ := o16.isSlice
  have hR0' := Lib.hid hR0
  clear hR0 o8 o12 o16 s8 s12 s16
  refine wpList_store_state rfl (.tmp 3) (.tmp 17) rfl rfl b nilSV ⟨nilV, nilV, nilV, nilV, u8, u12, u16, [], []⟩ hbox rfl rfl hone (fun w3 hbox3 hg3 => ?_)
  have hb3 : Below W0.heap.size W0 w3 := hb2.grown hg3 hb2.size (fun k hk => by injection hk with hk; omega)
  have hR3 := Lib.hid (hR0'.out.keptBy hg3 hbox.blk (by decide) (by decide))
  have hbox3' := Lib.hid hbox3
  clear hR0' hone hbox3 hbox hg3 hb2
  refine wpList_nil ?_
  go_wp2_with fail
  go_loopw [4] (fun i wr => ∃ (k : Nat) (V : SV), k ≤ p.bins.length ∧ i = .int .i64 k ∧ RB wr W0.heap.size V (List.replicate p.sizes.length 0) k ∧ BoxAt wr b V ∧ Below W0.heap.size W0 wr) (fun i _ => p.bins.length - (intOf i).toNat)
  case atStart => exact ⟨0, _, Nat.zero_le _, rfl, hR3.out, hbox3'.out, hb3⟩
  case round =>
    clear hR3 hbox3' hb3
    obtain ⟨k, V, hk, rfl, hOw, hbx, hbw⟩ := hrel
    have hOw' := Lib.hid hOw
    have hbx' := Lib.hid hbx
    have hB := hb0.trans (hbw.mono hb0.size)
    have hbxl := hbx.lt
    have hkP := hk0'.out.below hbw (by omega)
    have hp0 := hkP.cell (j := 0) rfl
    clear hOw hbx hkP
    by_cases hlt : k < p.bins.length
    · go_wp2_with fail
      refine wp_region_ops 7 [fun gq _ => gq 25 = .pointer (some ⟨b, 0, none⟩), fun gq _ => gq 26 = V.on, fun gq _ => gq 27 = .pointer (some ⟨w.heap.size, 1, none⟩), fun gq _ => gq 28 = .slice As p.sizes.length cs, fun gq _ => gq 29 = .int .i64 p.sizes.length, fun gq w' => (fun v w' => Own cInt 1 3 w' W0.heap.size v (List.replicate p.sizes.length 0)) (gq 30) w', fun gq w' => (fun v w' => ∃ bb u, v = .slice (some ⟨bb, 0, none⟩) 1 1 ∧ w'.cell? ⟨bb, 0, none⟩ = some u ∧ bb < w'.heap.size ∧ Own cInt 1 3 w' W0.heap.size u (List.replicate p.sizes.length 0)) (gq 31) w'] (by kernel_rfl) (by kernel_rfl) rfl (by kernel_rfl) ?_ (fun f w2 hb2 hR => ?_)
      simp only [List.take_succ_cons, List.take_zero]
      refine OpsOK.cons (OpOK.val rfl rfl (fun gq w' hb ho hd => ?_)) ?_
      · have e3 := ho 3 rfl
        go_simp
      refine OpsOK.cons (OpOK.val rfl rfl (fun gq w' hb ho hd => ?_)) ?_
      · have e25 : gq 25 = .pointer (some ⟨b, 0, none⟩) := hd ⟨0, .data⟩ (by simp) rfl (by decide)
        have x0 := (hbx'.out.below hb hbxl).cells.1
        go_simp
      refine OpsOK.cons (OpOK.val rfl rfl (fun gq w' hb ho hd => ?_)) ?_
      · have e1 := ho 1 rfl
        go_simp
      refine OpsOK.cons (OpOK.val rfl rfl (fun gq w' hb ho hd => ?_)) ?_
      · have e27 : gq 27 = .pointer (some ⟨w.heap.size, 1, none⟩) := hd ⟨2, .data⟩ (by simp) rfl (by decide)
        have x1 := (hk0'.out.below (hbw.trans (hb.mono hbw.size)) (by omega)).cell (j := 1) rfl
        go_simp
      refine OpsOK.cons (OpOK.val rfl rfl (fun gq w' hb ho hd => ?_)) ?_
      · have e28 : gq 28 = .slice As p.sizes.length cs := hd ⟨3, .data⟩ (by simp) rfl (by decide)
        go_simp
      refine OpsOK.cons (OpOK.one (d := 30) (p := (fun v w' => Own cInt 1 3 w' W0.heap.size v (List.replicate p.sizes.length 0))) rfl rfl (fun v w1 w2 h hb => h.below hb) (fun gq w' hb ho hd => ?_)) ?_
      · have e29 : gq 29 = .int .i64 p.sizes.length := hd ⟨4, .data⟩ (by simp) rfl (by decide)
        have hmk := hmk'.out
        unfold OpRel
        go_simp
        exact ⟨(Own.made_zeros w' p.sizes.length (by omega)).from_ (Nat.le_trans hbw.size hb.size), (Below.refl _ _).alloc (Nat.le_refl _) _⟩
      refine OpsOK.cons (OpOK.one (d := 31) (p := (fun v w' => ∃ bb u, v = .slice (some ⟨bb, 0, none⟩) 1 1 ∧ w'.cell? ⟨bb, 0, none⟩ = some u ∧ bb < w'.heap.size ∧ Own cInt 1 3 w' W0.heap.size u (List.replicate p.sizes.length 0))) rfl rfl (fun v w1 w2 h hb => let ⟨bb, u, h1, h2, h3, h4⟩ := h; ⟨bb, u, h1, (hb.cell (p := ⟨bb, 0, none⟩) h3).trans h2, Nat.lt_of_lt_of_le h3 hb.size, h4.below hb⟩) (fun gq w' hb ho hd => ?_)) ?_
      · have e30 : Own cInt 1 3 w' W0.heap.size (gq 30) (List.replicate p.sizes.length 0) := hd ⟨5, .data⟩ (by simp) rfl (by decide)
        obtain ⟨E, kc, s30⟩ := e30.isSlice
        simp only [List.length_replicate] at s30
        rw [s30] at e30
        have e' := Lib.hid e30
        clear e30
        unfold OpRel
        go_simp
        exact ⟨e'.out.alloc _, (Below.refl _ _).alloc (Nat.le_refl _) _⟩
      exact OpsOK.nil
      obtain ⟨r25, r26, r27, r28, r29, r30, r31, _⟩ := hR
      replace r30 : Own cInt 1 3 w2 W0.heap.size (f 30) (List.replicate p.sizes.length 0) := r30
      replace r31 : ∃ bb u, (f 31) = .slice (some ⟨bb, 0, none⟩) 1 1 ∧ w2.cell? ⟨bb, 0, none⟩ = some u ∧ bb < w2.heap.size ∧ Own cInt 1 3 w2 W0.heap.size u (List.replicate p.sizes.length 0) := r31
      simp only [fillA, fillT, List.take_succ_cons, List.take_zero, List.drop_succ_cons, List.drop_zero, List.filterMap_cons, List.filterMap_nil, List.foldl_cons, List.foldl_nil, List.setIfInBounds_toArray, List.set_cons_zero, List.set_cons_succ, r25, r26, r27, r28, r29]
      clear r25 r26 r27 r28 r29
      obtain ⟨bb, u, r4, c4, l4, o4⟩ := r31
      simp only [r4]
      clear r4 r30
      have hOw2 := hOw'.out.below hb2
      have hBx2 := hbx'.out.below hb2 hbxl
      refine wpList_push _ rfl (.tmp 26) (.tmp 31) 26 23 rfl W0.heap.size _ 1 24 Try.underlying26 infoInts rfl (by decide) (by decide) V.on V.rows u rfl hOw2.on ⟨bb, 0, none⟩ 1 rfl rfl (fun j x hj => by
        cases j with
        | zero => simp only [List.getElem?_cons_zero, Option.some.injEq] at hj; subst hj; exact c4
        | succ j => simp at hj) (one_val _ (own_one o4)) (by rw [hOw2.rlen]; omega) (Nat.le_trans hbw.size hb2.size) ?_
      intro v7 w7 hown7 hg7 hat7 hbel7
      have hO7 := hOw2.push o4 hg7 hown7
      have hBx7 : BoxAt w7 b V := hBx2.grown hg7 (fun he => by
        rcases hOw2.on.notBox hBx2.blk (by decide) with h | h
        · rw [h] at he; cases he
        · exact h he.symm)
      have hbw7 : Below W0.heap.size W0 w7 := (hbw.trans (hb2.mono hbw.size)).trans hbel7
      have hO8 := hO7.keptBy (set_row hBx7.blk 0 v7).2 hBx7.blk (by decide) (by decide)
      have hBx8 := hBx7.setOn v7
      have hbw8 := hbw7.setCell (p := ⟨b, 0, none⟩) hlb v7
      obtain ⟨Av, cv, hv7⟩ := hown7.isSlice
      simp only [List.length_append, List.length_cons, List.length_nil, Nat.zero_add] at hv7
      have hO8' := Lib.hid hO8
      have hBx8' := Lib.hid hBx8
      have q1 := hBx7.cells.1
      have qf := hBx7.frozen 0
      clear hO8 hBx8 hO7 hBx7 hown7 hg7 hat7 hbel7 hOw2 hBx2 o4 c4
      subst hv7
      go_wp2_with fail
      go_roundw
      case rel => exact ⟨k + 1, _, by omega, by go_num, hO8'.out, hBx8'.out, hbw8⟩
      case measure => simp [intOf]; omega
    · obtain rfl : k = p.bins.length := by omega
      have hR1 := hk1'.out.below hbw hsz0
      obtain ⟨b0, b1, b2, b3, b4, b5, b6⟩ := hbx'.out.cells
      have hone := hOw'.out.one
      go_wp2_with (refine wpList_store_state rfl (.tmp 2) (.tmp 34) rfl rfl (w.heap.size + 1) nilSV V hR1 rfl rfl hone (fun w9 hbox9 hg9 => ?_))
      have hO9 := hOw'.out.keptBy hg9 hR1.blk (by decide) (by decide)
      obtain ⟨p0, p1, p2, p3, p4, p5, p6⟩ := hbox9.cells
      have hfin : Below w.heap.size w w9 := hB.grown hg9 hB.size (fun k hk => by injection hk with hk; omega)
      clear b0 b1 b2 b3 b4 b5 b6
      go_wp2_with fail
      exact bodyPost_ret (v := V.val) (by simp [results, Try.results22, go_sem, SV.val, p0, p1, p2, p3, p4, p5, p6]) rfl ⟨V, rfl, hO9.from_ hb0.size, hfin⟩
end Wh
