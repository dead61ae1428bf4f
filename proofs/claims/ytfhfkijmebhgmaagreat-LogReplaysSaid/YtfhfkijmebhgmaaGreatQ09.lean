/- Texts of the claim, joined: StateK, PlainH. -/
import Derived.Test.YtfhfkijmebhgmaaGreatQ06
import Derived.Test.YtfhfkijmebhgmaaGreatQ07
import Derived.Test.YtfhfkijmebhgmaaGreatQ08
namespace Wh
open Go Go.RowKit Go.Shelf Go.Proofs
attribute [local go_sem] run_indexAt_letter evL_tmp evL_const evL_func

theorem infoOrder : Elem Tryz.prog 42 (.agg #[.int .i64 0, .slice none 0 0]) 2 32 := elem_of (by kernel_rfl)
theorem oneOrd (x : Int × Value) (h : x.2.oneCell' = true) : ∀ u ∈ cOrd x, u.oneCell' = true := by
  intro u hu
  simp only [cOrd, List.mem_cons, List.not_mem_nil, or_false] at hu
  rcases hu with rfl | rfl
  · rfl
  · exact h
theorem own_one {α : Type} {enc : α → List Value} {size : Nat} {e : TypeId} {w : World} {base : Nat} {v : Value} {l : List α} (h : Own enc size e w base v l) : v.oneCell' = true := by
  obtain ⟨A, c, rfl⟩ := h.isSlice
  rfl
theorem take_order {s : State} {k : Nat} (h : k < s.orders.length) : s.orders.take (k + 1) = s.orders.take k ++ [orderAt s.orders k] := by
  rw [List.take_succ_eq_append_getElem h, orderAt_eq h]
/-- The state, of its orders the first k. -/
def upTo (s : State) (k : Nat) : State := { s with orders := s.orders.take k }
theorem upTo_all (s : State) : upTo s s.orders.length = s := by
  unfold upTo
  rw [List.take_length]
theorem upTo_succ {s : State} {k : Nat} (h : k < s.orders.length) : upTo s (k + 1) = { upTo s k with orders := (upTo s k).orders ++ [orderAt s.orders k] } := by
  unfold upTo
  simp only
  rw [take_order h]

set_option maxHeartbeats 8000000 in
set_option maxRecDepth 100000 in
theorem sOwn (w : World) (v : Value) (p : Plan) (s : State) (hv : StateV w w.heap.size v s) (hs : Sane p s) :
    Calls Tryz.prog 61 #[v] w (Gives (fun u w' => ∃ V, u = V.val ∧ OwnSt w' w.heap.size V s) w) := by
  have h4 := hs.orders4
  have h8 := hs.moves8
  have h72 := ok_len72 hs.holds
  have hcnt := hs.counts
  have hsH := Lib.hid hs
  clear hs
  obtain ⟨A0, c0, A1, c1, A2, c2, A3, c3, A4, c4, A5, c5, A6, c6, rfl, hV, hN, hO, hH, hM, hI, hU, hX, hl0, hl1, hl2, hl3, hl4, hl5, hl6⟩ := openOne hv
  go_enter Tryz.func61, Tryz.ntmps61
  go_wp2_with fail
  obtain ⟨W0, hW0, hb0, hsz0, hsz1, hsE, hK⟩ := boxesOne w s A0 c0 A1 c1 A2 c2 A3 c3 A4 c4 A5 c5 A6 c6
  rw [hW0]
  clear hW0
  generalize hW1 : W0.alloc _ = W1
  have hb1 : Below W0.heap.size W0 W1 := by rw [← hW1]; exact (Below.refl _ _).alloc (Nat.le_refl _) _
  have hs1 : W0.heap.size < W1.heap.size := by rw [← hW1]; simp
  have hBlk0 := Lib.hid (show Blk W1 W0.heap.size 31 [.slice none 0 0, .slice none 0 0, .slice none 0 0, .slice none 0 0, .slice none 0 0, .slice none 0 0, .slice none 0 0] by rw [← hW1]; exact Blk.new _ _ _)
  clear hW1
  have hB1 := hb0.trans (hb1.mono hb0.size)
  have hrows : ∀ k, k < s.on.length → 0 < (rowAt s.on k).length ∧ (rowAt s.on k).length ≤ 1000 := fun k hk => by
    have := hsH.out.rowLen (b := k) (by rw [← hsH.out.onLen]; exact hk)
    omega
  have hon : s.on.length ≤ 1000 := by rw [hsH.out.onLen]; omega
  have hrows' := Lib.hid hrows
  have hil' := Lib.hid hsH.out.inn.1
  have hul' := Lib.hid hsH.out.out.1
  have hxl' := Lib.hid hsH.out.fixed.1
  clear hrows
  refine wp_region_ops 20 [
    fun g _ => g 6 = .pointer (some ⟨w.heap.size, 0, none⟩),
    fun g _ => g 7 = .slice A0 s.on.length c0,
    fun g w' => (fun v w' => ∃ gs, OwnOn 23 3 w' W1.heap.size (v) s.on gs) (g 8) w',
    fun g _ => g 9 = .pointer (some ⟨w.heap.size, 2, none⟩),
    fun g _ => g 10 = .slice A2 s.holds.length c2,
    fun g w' => Own cHold 4 46 w' W1.heap.size (g 11) s.holds ∧ ∃ gs, OwnOn 23 3 w' W1.heap.size (g 8) s.on gs,
    fun g _ => g 12 = .pointer (some ⟨w.heap.size, 3, none⟩),
    fun g _ => g 13 = .slice A3 s.moves.length c3,
    fun g w' => Own cMove 4 48 w' W1.heap.size (g 14) s.moves ∧ ∃ gs, OwnOn 23 3 w' W1.heap.size (g 8) s.on gs,
    fun g _ => g 15 = .pointer (some ⟨w.heap.size, 4, none⟩),
    fun g _ => g 16 = .slice A4 s.inn.length c4,
    fun g w' => NumsI w' W1.heap.size s.on s.inn (g 8) (g 17),
    fun g _ => g 18 = .pointer (some ⟨w.heap.size, 5, none⟩),
    fun g _ => g 19 = .slice A5 s.out.length c5,
    fun g w' => NumsU w' W1.heap.size s.on s.inn s.out (g 8) (g 17) (g 20),
    fun g _ => g 21 = .pointer (some ⟨w.heap.size, 6, none⟩),
    fun g _ => g 22 = .slice A6 s.fixed.length c6,
    fun g w' => NumsX w' W1.heap.size s.on s.inn s.out s.fixed (g 8) (g 17) (g 20) (g 23),
    fun g _ => g 24 = .agg #[g 8, .slice none 0 0, g 11, g 14, g 17, g 20, g 23],
    fun g w' => (fun v w' => ∃ b, v = .pointer (some ⟨b, 0, none⟩) ∧ W1.heap.size ≤ b ∧ BoxAt w' b ⟨nilV, nilV, nilV, nilV, nilV, nilV, nilV, [], []⟩) (g 3) w'] (by kernel_rfl) (by kernel_rfl) rfl (by kernel_rfl) ?_ (fun f w2 hb2 hR => ?_)
  simp only [List.take_succ_cons, List.take_zero]
  refine OpsOK.cons (OpOK.val rfl rfl (fun g w' hb ho hd => ?_)) ?_
  · have e1 := ho 1 rfl
    go_simp
  refine OpsOK.cons (OpOK.val rfl rfl (fun g w' hb ho hd => ?_)) ?_
  · have e1 : g 6 = .pointer (some ⟨w.heap.size, 0, none⟩) := hd ⟨0, .data⟩ (by simp) rfl (by decide)
    obtain ⟨_, x0, x1, x2, x3, x4, x5, x6, _⟩ := hK.out w' (hb1.trans (hb.mono hb1.size))
    go_simp
  refine OpsOK.cons (OpOK.one (d := 8) (p := (fun v w' => ∃ gs, OwnOn 23 3 w' W1.heap.size (v) s.on gs)) rfl rfl (fun v w1 w2 h hb => h.elim fun gs h => ⟨gs, h.below hb⟩) (fun g w' hb ho hd => ?_)) ?_
  · have e1 : g 7 = .slice A0 s.on.length c0 := hd ⟨1, .data⟩ (by simp) rfl (by decide)
    unfold OpRel
    go_simp
    refine (shelfOwn w' _ s.on (hN.out w' (hB1.trans (hb.mono hB1.size))) hon hrows'.out).mono ?_
    rintro e w2 ⟨u, rfl, ⟨gs, h⟩, hb2⟩
    exact ⟨u, rfl, ⟨gs, h.from_ hb.size⟩, hb2⟩
  refine OpsOK.cons (OpOK.val rfl rfl (fun g w' hb ho hd => ?_)) ?_
  · have e1 := ho 1 rfl
    go_simp
  refine OpsOK.cons (OpOK.val rfl rfl (fun g w' hb ho hd => ?_)) ?_
  · have e1 : g 9 = .pointer (some ⟨w.heap.size, 2, none⟩) := hd ⟨3, .data⟩ (by simp) rfl (by decide)
    obtain ⟨_, x0, x1, x2, x3, x4, x5, x6, _⟩ := hK.out w' (hb1.trans (hb.mono hb1.size))
    go_simp
  refine OpsOK.cons (⟨fun g w1 w2 h hb => ⟨h.1.below hb, h.2.elim fun gs h => ⟨gs, h.below hb⟩⟩, fun g g' w1 he h => ?_, fun g w' hb ho hd => ?_⟩) ?_
  · have e0 := he 2 _ 8 (.back (i := 5) (e := ⟨2, .chain⟩) rfl (by simp) rfl rfl (.self 2)) rfl rfl
    have e2 := he 5 _ 11 (.self 5) rfl rfl
    simp only [e0, e2] at h
    exact h
  · have e1 : g 10 = .slice A2 s.holds.length c2 := hd ⟨4, .data⟩ (by simp) rfl (by decide)
    have e2 : ∃ gs, OwnOn 23 3 w' W1.heap.size (g 8) s.on gs := hd ⟨2, .chain⟩ (by simp) rfl (by decide)
    have e2' := Lib.hid e2
    clear e2
    unfold OpRel
    go_simp
    refine (cloneHold w' _ s.holds (hH.out w' (hB1.trans (hb.mono hB1.size))) (by omega)).mono ?_
    rintro e w2 ⟨u, rfl, h, hb2⟩
    have hfin : Own cHold 4 46 w2 W1.heap.size (u) s.holds ∧ ∃ gs, OwnOn 23 3 w2 W1.heap.size (g 8) s.on gs := ⟨h.from_ hb.size, e2'.out.elim fun gs h => ⟨gs, h.below hb2⟩⟩
    exact ⟨u, rfl, by simpa [updO, upd] using hfin, hb2⟩
  refine OpsOK.cons (OpOK.val rfl rfl (fun g w' hb ho hd => ?_)) ?_
  · have e1 := ho 1 rfl
    go_simp
  refine OpsOK.cons (OpOK.val rfl rfl (fun g w' hb ho hd => ?_)) ?_
  · have e1 : g 12 = .pointer (some ⟨w.heap.size, 3, none⟩) := hd ⟨6, .data⟩ (by simp) rfl (by decide)
    obtain ⟨_, x0, x1, x2, x3, x4, x5, x6, _⟩ := hK.out w' (hb1.trans (hb.mono hb1.size))
    go_simp
  refine OpsOK.cons (⟨fun g w1 w2 h hb => ⟨h.1.below hb, h.2.elim fun gs h => ⟨gs, h.below hb⟩⟩, fun g g' w1 he h => ?_, fun g w' hb ho hd => ?_⟩) ?_
  · have e0 := he 2 _ 8 (.back (i := 8) (e := ⟨5, .chain⟩) rfl (by simp) rfl rfl (.back (i := 5) (e := ⟨2, .chain⟩) rfl (by simp) rfl rfl (.self 2))) rfl rfl
    have e3 := he 8 _ 14 (.self 8) rfl rfl
    simp only [e0, e3] at h
    exact h
  · have e1 : g 13 = .slice A3 s.moves.length c3 := hd ⟨7, .data⟩ (by simp) rfl (by decide)
    have e2 : Own cHold 4 46 w' W1.heap.size (g 11) s.holds ∧ ∃ gs, OwnOn 23 3 w' W1.heap.size (g 8) s.on gs := hd ⟨5, .chain⟩ (by simp) rfl (by decide)
    have e2' := Lib.hid e2
    clear e2
    unfold OpRel
    go_simp
    refine (cloneMove w' _ s.moves (hM.out w' (hB1.trans (hb.mono hB1.size))) (by omega)).mono ?_
    rintro e w2 ⟨u, rfl, h, hb2⟩
    have hfin : Own cMove 4 48 w2 W1.heap.size (u) s.moves ∧ ∃ gs, OwnOn 23 3 w2 W1.heap.size (g 8) s.on gs := ⟨h.from_ hb.size, e2'.out.2.elim fun gs h => ⟨gs, h.below hb2⟩⟩
    exact ⟨u, rfl, by simpa [updO, upd] using hfin, hb2⟩
  refine OpsOK.cons (OpOK.val rfl rfl (fun g w' hb ho hd => ?_)) ?_
  · have e1 := ho 1 rfl
    go_simp
  refine OpsOK.cons (OpOK.val rfl rfl (fun g w' hb ho hd => ?_)) ?_
  · have e1 : g 15 = .pointer (some ⟨w.heap.size, 4, none⟩) := hd ⟨9, .data⟩ (by simp) rfl (by decide)
    obtain ⟨_, x0, x1, x2, x3, x4, x5, x6, _⟩ := hK.out w' (hb1.trans (hb.mono hb1.size))
    go_simp
  refine OpsOK.cons (⟨fun g w1 w2 h hb => h.below hb, fun g g' w1 he h => ?_, fun g w' hb ho hd => ?_⟩) ?_
  · have e0 := he 2 _ 8 (.back (i := 11) (e := ⟨8, .chain⟩) rfl (by simp) rfl rfl (.back (i := 8) (e := ⟨5, .chain⟩) rfl (by simp) rfl rfl (.back (i := 5) (e := ⟨2, .chain⟩) rfl (by simp) rfl rfl (.self 2)))) rfl rfl
    have e4 := he 11 _ 17 (.self 11) rfl rfl
    simp only [e0, e4] at h
    exact h
  · have e1 : g 16 = .slice A4 s.inn.length c4 := hd ⟨10, .data⟩ (by simp) rfl (by decide)
    have e2 : Own cMove 4 48 w' W1.heap.size (g 14) s.moves ∧ ∃ gs, OwnOn 23 3 w' W1.heap.size (g 8) s.on gs := hd ⟨8, .chain⟩ (by simp) rfl (by decide)
    have e2' := Lib.hid e2
    clear e2
    unfold OpRel
    go_simp
    refine (cloneInt w' _ s.inn (hI.out w' (hB1.trans (hb.mono hB1.size))) (by rw [hil'.out]; omega)).mono ?_
    rintro e w2 ⟨u, rfl, h, hb2⟩
    have hfin : NumsI w2 W1.heap.size s.on s.inn (g 8) u := e2'.out.2.elim fun gs h8 => NumsI.of h8 hb.size hb2 h
    exact ⟨u, rfl, by simpa [updO, upd] using hfin, hb2⟩
  refine OpsOK.cons (OpOK.val rfl rfl (fun g w' hb ho hd => ?_)) ?_
  · have e1 := ho 1 rfl
    go_simp
  refine OpsOK.cons (OpOK.val rfl rfl (fun g w' hb ho hd => ?_)) ?_
  · have e1 : g 18 = .pointer (some ⟨w.heap.size, 5, none⟩) := hd ⟨12, .data⟩ (by simp) rfl (by decide)
    obtain ⟨_, x0, x1, x2, x3, x4, x5, x6, _⟩ := hK.out w' (hb1.trans (hb.mono hb1.size))
    go_simp
  refine OpsOK.cons (⟨fun g w1 w2 h hb => h.below hb, fun g g' w1 he h => ?_, fun g w' hb ho hd => ?_⟩) ?_
  · have e0 := he 2 _ 8 (.back (i := 14) (e := ⟨11, .chain⟩) rfl (by simp) rfl rfl (.back (i := 11) (e := ⟨8, .chain⟩) rfl (by simp) rfl rfl (.back (i := 8) (e := ⟨5, .chain⟩) rfl (by simp) rfl rfl (.back (i := 5) (e := ⟨2, .chain⟩) rfl (by simp) rfl rfl (.self 2))))) rfl rfl
    have e4 := he 11 _ 17 (.back (i := 14) (e := ⟨11, .chain⟩) rfl (by simp) rfl rfl (.self 11)) rfl rfl
    have e5 := he 14 _ 20 (.self 14) rfl rfl
    simp only [e0, e4, e5] at h
    exact h
  · have e1 : g 19 = .slice A5 s.out.length c5 := hd ⟨13, .data⟩ (by simp) rfl (by decide)
    have e2 : NumsI w' W1.heap.size s.on s.inn (g 8) (g 17) := hd ⟨11, .chain⟩ (by simp) rfl (by decide)
    have e2' := Lib.hid e2
    clear e2
    unfold OpRel
    go_simp
    refine (cloneInt w' _ s.out (hU.out w' (hB1.trans (hb.mono hB1.size))) (by rw [hul'.out]; omega)).mono ?_
    rintro e w2 ⟨u, rfl, h, hb2⟩
    have hfin : NumsU w2 W1.heap.size s.on s.inn s.out (g 8) (g 17) u := NumsU.of e2'.out hb.size hb2 h
    exact ⟨u, rfl, by simpa [updO, upd] using hfin, hb2⟩
  refine OpsOK.cons (OpOK.val rfl rfl (fun g w' hb ho hd => ?_)) ?_
  · have e1 := ho 1 rfl
    go_simp
  refine OpsOK.cons (OpOK.val rfl rfl (fun g w' hb ho hd => ?_)) ?_
  · have e1 : g 21 = .pointer (some ⟨w.heap.size, 6, none⟩) := hd ⟨15, .data⟩ (by simp) rfl (by decide)
    obtain ⟨_, x0, x1, x2, x3, x4, x5, x6, _⟩ := hK.out w' (hb1.trans (hb.mono hb1.size))
    go_simp
  refine OpsOK.cons (⟨fun g w1 w2 h hb => h.below hb, fun g g' w1 he h => ?_, fun g w' hb ho hd => ?_⟩) ?_
  · have e0 := he 2 _ 8 (.back (i := 17) (e := ⟨14, .chain⟩) rfl (by simp) rfl rfl (.back (i := 14) (e := ⟨11, .chain⟩) rfl (by simp) rfl rfl (.back (i := 11) (e := ⟨8, .chain⟩) rfl (by simp) rfl rfl (.back (i := 8) (e := ⟨5, .chain⟩) rfl (by simp) rfl rfl (.back (i := 5) (e := ⟨2, .chain⟩) rfl (by simp) rfl rfl (.self 2)))))) rfl rfl
    have e4 := he 11 _ 17 (.back (i := 17) (e := ⟨14, .chain⟩) rfl (by simp) rfl rfl (.back (i := 14) (e := ⟨11, .chain⟩) rfl (by simp) rfl rfl (.self 11))) rfl rfl
    have e5 := he 14 _ 20 (.back (i := 17) (e := ⟨14, .chain⟩) rfl (by simp) rfl rfl (.self 14)) rfl rfl
    have e6 := he 17 _ 23 (.self 17) rfl rfl
    simp only [e0, e4, e5, e6] at h
    exact h
  · have e1 : g 22 = .slice A6 s.fixed.length c6 := hd ⟨16, .data⟩ (by simp) rfl (by decide)
    have e2 : NumsU w' W1.heap.size s.on s.inn s.out (g 8) (g 17) (g 20) := hd ⟨14, .chain⟩ (by simp) rfl (by decide)
    have e2' := Lib.hid e2
    clear e2
    unfold OpRel
    go_simp
    refine (cloneInt w' _ s.fixed (hX.out w' (hB1.trans (hb.mono hB1.size))) (by rw [hxl'.out]; omega)).mono ?_
    rintro e w2 ⟨u, rfl, h, hb2⟩
    have hfin : NumsX w2 W1.heap.size s.on s.inn s.out s.fixed (g 8) (g 17) (g 20) u := NumsX.of e2'.out hb.size hb2 h
    exact ⟨u, rfl, by simpa [updO, upd] using hfin, hb2⟩
  refine OpsOK.cons (⟨fun g w1 w2 h hb => h, fun g g' w1 he h => ?_, fun g w' hb ho hd => ?_⟩) ?_
  · have es := he 18 _ 24 (.self 18) rfl rfl
    have e0 := he 2 _ 8 (.back (i := 18) (e := ⟨2, .data⟩) rfl (by simp) rfl rfl (.self 2)) rfl rfl
    have e2 := he 5 _ 11 (.back (i := 18) (e := ⟨5, .data⟩) rfl (by simp) rfl rfl (.self 5)) rfl rfl
    have e3 := he 8 _ 14 (.back (i := 18) (e := ⟨8, .data⟩) rfl (by simp) rfl rfl (.self 8)) rfl rfl
    have e4 := he 11 _ 17 (.back (i := 18) (e := ⟨11, .data⟩) rfl (by simp) rfl rfl (.self 11)) rfl rfl
    have e5 := he 14 _ 20 (.back (i := 18) (e := ⟨14, .data⟩) rfl (by simp) rfl rfl (.self 14)) rfl rfl
    have e6 := he 17 _ 23 (.back (i := 18) (e := ⟨17, .data⟩) rfl (by simp) rfl rfl (.self 17)) rfl rfl
    change g' 24 = .agg #[g' 8, .slice none 0 0, g' 11, g' 14, g' 17, g' 20, g' 23]
    rw [← es, ← e0, ← e2, ← e3, ← e4, ← e5, ← e6]
    exact h
  · obtain ⟨B0, d0, s0⟩ : ∃ A c, g 8 = .slice A s.on.length c := (hd ⟨2, .data⟩ (by simp) rfl (by decide) : ∃ gs, OwnOn 23 3 w' W1.heap.size (g 8) s.on gs).elim fun gs h => h.isSlice
    obtain ⟨B2, d2, s2⟩ := (hd ⟨5, .data⟩ (by simp) rfl (by decide) : Own cHold 4 46 w' W1.heap.size (g 11) s.holds ∧ ∃ gs, OwnOn 23 3 w' W1.heap.size (g 8) s.on gs).1.isSlice
    obtain ⟨B3, d3, s3⟩ := (hd ⟨8, .data⟩ (by simp) rfl (by decide) : Own cMove 4 48 w' W1.heap.size (g 14) s.moves ∧ ∃ gs, OwnOn 23 3 w' W1.heap.size (g 8) s.on gs).1.isSlice
    obtain ⟨B4, d4, s4⟩ := (hd ⟨11, .data⟩ (by simp) rfl (by decide) : NumsI w' W1.heap.size s.on s.inn (g 8) (g 17)).isSlice
    obtain ⟨B5, d5, s5⟩ := (hd ⟨14, .data⟩ (by simp) rfl (by decide) : NumsU w' W1.heap.size s.on s.inn s.out (g 8) (g 17) (g 20)).isSlice
    obtain ⟨B6, d6, s6⟩ := (hd ⟨17, .data⟩ (by simp) rfl (by decide) : NumsX w' W1.heap.size s.on s.inn s.out s.fixed (g 8) (g 17) (g 20) (g 23)).isSlice
    unfold OpRel
    go_simp
    exact ⟨by simp [updO, upd, s0, s2, s3, s4, s5, s6], Below.refl _ _⟩
  refine OpsOK.cons (OpOK.one (d := 3) (p := (fun v w' => ∃ b, v = .pointer (some ⟨b, 0, none⟩) ∧ W1.heap.size ≤ b ∧ BoxAt w' b ⟨nilV, nilV, nilV, nilV, nilV, nilV, nilV, [], []⟩)) rfl rfl (fun v w1 w2 h hb => h.elim fun b h => ⟨b, h.1, h.2.1, h.2.2.below hb h.2.2.lt⟩) (fun g w' hb ho hd => ?_)) ?_
  · unfold OpRel
    go_simp
    exact ⟨⟨hb.size, Blk.new _ _ _⟩, (Below.refl _ _).alloc (Nat.le_refl _) _⟩
  exact OpsOK.nil
  obtain ⟨r0, r1, r2, r3, r4, r5, r6, r7, r8, r9, r10, r11, r12, r13, r14, r15, r16, r17, r18, ⟨b, r19, hbb, hbox⟩, _⟩ := hR
  simp only [fillA, fillT, List.take_succ_cons, List.take_zero, List.drop_succ_cons, List.drop_zero, List.filterMap_cons, List.filterMap_nil, List.foldl_cons, List.foldl_nil, List.setIfInBounds_toArray, List.set_cons_zero, List.set_cons_succ, r0, r1, r3, r4, r6, r7, r9, r10, r12, r13, r15, r16, r18, r19]
  obtain ⟨B0, d0, s0⟩ := r17.isSlice0
  obtain ⟨B2, d2, s2⟩ := r5.1.isSlice
  obtain ⟨B3, d3, s3⟩ := r8.1.isSlice
  obtain ⟨B4, d4, s4⟩ := r11.isSlice
  obtain ⟨B5, d5, s5⟩ := r14.isSlice
  obtain ⟨B6, d6, s6⟩ := r17.isSlice
  obtain ⟨vs, hown⟩ := r17.made r5.1 r8.1
  simp only [s0, s2, s3, s4, s5, s6] at hown ⊢
  have hO2 := Lib.hid hown
  clear hown s0 s2 s3 s4 s5 s6
  clear r0 r1 r2 r3 r4 r5 r6 r7 r8 r9 r10 r11 r12 r13 r14 r15 r16 r17 r18 r19
  refine wpList_store_state rfl (.tmp 3) (.tmp 24) rfl rfl b _ ⟨.slice B0 s.on.length d0, nilV, .slice B2 s.holds.length d2, .slice B3 s.moves.length d3, .slice B4 s.inn.length d4, .slice B5 s.out.length d5, .slice B6 s.fixed.length d6, vs, []⟩ hbox rfl rfl rfl (fun w3 hbox3 hg3 => ?_)
  have hbw : Below W1.heap.size W1 w3 := hb2.grown hg3 hb2.size (fun k hk => by injection hk with hk; omega)
  have hO3 : OwnSt w3 W1.heap.size ⟨.slice B0 s.on.length d0, nilV, .slice B2 s.holds.length d2, .slice B3 s.moves.length d3, .slice B4 s.inn.length d4, .slice B5 s.out.length d5, .slice B6 s.fixed.length d6, vs, []⟩ (upTo s 0) :=
    hO2.out.keptBy hg3 hbox.blk (by decide) (by decide) (by decide) (by decide) (by decide) (by decide)
  have hO3' := Lib.hid hO3
  have hbox3' := Lib.hid hbox3
  clear hO3 hO2 hbox hbox3 hg3 hb2
  have hbwK := hb1.trans (hbw.mono hb1.size)
  obtain ⟨_, x0, x1, x2, x3, x4, x5, x6, _⟩ := hK.out w3 hbwK
  refine wpList_nil ?_
  go_wp2_with fail
  go_loopw [28, 5] (fun i _ wr => ∃ (k : Nat) (V : SV), k ≤ s.orders.length ∧ i = .int .i64 k ∧ OwnSt wr W1.heap.size V (upTo s k) ∧ BoxAt wr b V ∧ Below W1.heap.size W1 wr) (fun i _ _ => s.orders.length - (intOf i).toNat)
  case atStart => exact ⟨0, _, Nat.zero_le _, rfl, hO3'.out, hbox3'.out, hbw⟩
  case round =>
    clear x0 x1 x2 x3 x4 x5 x6 hbw hbwK hO3' hbox3'
    obtain ⟨k, V, hk, rfl, hOw, hbx, hbw⟩ := hrel
    have hOw' := Lib.hid hOw
    have hbx' := Lib.hid hbx
    clear hOw hbx
    have hB := hB1.trans (hbw.mono hB1.size)
    have hbwK := hb1.trans (hbw.mono hb1.size)
    by_cases hlt : k < s.orders.length
    · obtain ⟨A', c', hok1, hAb1, e0, e1, hsl⟩ := (hO.out wr hB).order hlt
      obtain ⟨l1, l3⟩ := hsH.out.lines3 hlt
      change 1 ≤ (orderAt s.orders k).lines.length at l1
      change (orderAt s.orders k).lines.length ≤ 3 at l3
      have hwa : Below wr.heap.size wr (wr.alloc (.cells #[.int .i64 (orderAt s.orders k).kind, .slice A' (orderAt s.orders k).lines.length c'] 42)) := (Below.refl _ _).alloc (Nat.le_refl _) _
      have hla : wr.heap.size < (wr.alloc (.cells #[.int .i64 (orderAt s.orders k).kind, .slice A' (orderAt s.orders k).lines.length c'] 42)).heap.size := by simp
      have hob : Blk (wr.alloc (.cells #[.int .i64 (orderAt s.orders k).kind, .slice A' (orderAt s.orders k).lines.length c'] 42)) wr.heap.size 42 [.int .i64 (orderAt s.orders k).kind, .slice A' (orderAt s.orders k).lines.length c'] := Blk.new _ _ _
      have hob' := Lib.hid hob
      clear hob
      go_wp2_with fail
      clear e0 e1
      refine (cloneLine _ _ (orderAt s.orders k).lines (hsl.grow hwa) (by omega)).mono ?_
      rintro e W4 ⟨u, rfl, hu, hb4⟩
      generalize hWa : wr.alloc (.cells #[.int .i64 (orderAt s.orders k).kind, .slice A' (orderAt s.orders k).lines.length c'] 42) = Wa at hwa hla hob' hu hb4
      clear hWa hsl
      obtain ⟨Au, cu, rfl⟩ := hu.isSlice
      have hb14 := hwa.trans (hb4.mono hwa.size)
      have hob4 := hob'.out.below hb4 hla
      have hob4' := Lib.hid hob4
      have hu' := Lib.hid hu
      have z0 := hob4.cell (j := 0) rfl
      have z1 := hob4.cell (j := 1) rfl
      have zf := hob4.frozen 1
      have hBx4 := hbx'.out.below hb14 hbx'.out.lt
      have y1 := hBx4.cells.2.1
      have hbne : b ≠ wr.heap.size := Nat.ne_of_lt hbx'.out.lt
      have hbne' : wr.heap.size ≠ b := fun e => hbne e.symm
      have hBx4' := Lib.hid hBx4
      clear hob4 hu hBx4 hob'
      go_wp2_with (first | (at_builtin; refine Hid.out ?_) | fail)
      unfold Hid
      have hb15 : Below wr.heap.size wr (W4.setCell ⟨wr.heap.size, 1, none⟩ (Value.slice Au (orderAt s.orders k).lines.length cu)) := hb14.setCell (Nat.le_refl _) _
      have hb16 : Below wr.heap.size wr ((W4.setCell ⟨wr.heap.size, 1, none⟩ (Value.slice Au (orderAt s.orders k).lines.length cu)).alloc (.cells #[.int .i64 (orderAt s.orders k).kind, Value.slice Au (orderAt s.orders k).lines.length cu] 42)) := hb15.alloc hb15.size _
      have hu6 : Own cLine 4 44 ((W4.setCell ⟨wr.heap.size, 1, none⟩ (Value.slice Au (orderAt s.orders k).lines.length cu)).alloc (.cells #[.int .i64 (orderAt s.orders k).kind, Value.slice Au (orderAt s.orders k).lines.length cu] 42)) W1.heap.size (Value.slice Au (orderAt s.orders k).lines.length cu) (orderAt s.orders k).lines :=
        ((hu'.out.kept (set_row hob4'.out 1 _).2 (.inr fun he => by have := (hu'.out.size _ he).1; omega)).alloc _).from_ (Nat.le_trans hbw.size hwa.size)
      have huf : ∀ g, Value.ownBlock (Value.slice Au (orderAt s.orders k).lines.length cu) = some g → wr.heap.size ≤ g := fun g hg => by
        have := (hu'.out.size g hg).1
        omega
      have hlo : (ords (upTo s k).orders V.lines).length ≤ 1000000 := by
        rw [ords_length hOw'.out.llen]
        show (s.orders.take k).length ≤ 1000000
        rw [List.length_take]
        omega
      have hBx6 : BoxAt ((W4.setCell ⟨wr.heap.size, 1, none⟩ (Value.slice Au (orderAt s.orders k).lines.length cu)).alloc (.cells #[.int .i64 (orderAt s.orders k).kind, Value.slice Au (orderAt s.orders k).lines.length cu] 42)) b V := (hbx'.out.below hb16 hbx'.out.lt)
      have hO6 := hOw'.out.below hb16
      have hBx6' := Lib.hid hBx6
      clear hBx6
      have hcn := cells_new (W4.setCell ⟨wr.heap.size, 1, none⟩ (Value.slice Au (orderAt s.orders k).lines.length cu)) #[.int .i64 (orderAt s.orders k).kind, Value.slice Au (orderAt s.orders k).lines.length cu] 42
      rw [show (W4.setCell ⟨wr.heap.size, 1, none⟩ (Value.slice Au (orderAt s.orders k).lines.length cu)).heap.size = W4.heap.size by simp [World.setCell]] at hcn
      refine wpList_push _ rfl (.tmp 37) (.tmp 39) 27 42 rfl W1.heap.size _ 2 32 Tryz.underlying27 infoOrder rfl (by decide) (by decide) V.orders (ords (upTo s k).orders V.lines) ((orderAt s.orders k).kind, Value.slice Au (orderAt s.orders k).lines.length cu) rfl hO6.orders ⟨W4.heap.size, 0, none⟩ 1 rfl rfl hcn (oneOrd _ rfl) hlo (Nat.le_trans hbw.size hb16.size) ?_
      intro v7 w7 hown7 hg7 hat7 hbel7
      have hO7 := hOw'.out.pushOrder hb16 (x := orderAt s.orders k) hu6 huf hg7 hown7
      have hBx7 : BoxAt w7 b V := hBx6'.out.grown hg7 (fun he => by
        rcases hO6.orders.notBox hBx6'.out.blk (by decide) with h | h
        · rw [h] at he; cases he
        · exact h he.symm)
      have hbw7 : Below W1.heap.size W1 w7 := (hbw.trans (hb16.mono hbw.size)).trans hbel7
      obtain ⟨Av, cv, hv7⟩ := hown7.isSlice
      simp only [List.length_append, List.length_cons, List.length_nil, Nat.zero_add] at hv7
      subst hv7
      obtain ⟨vv, hvv⟩ : ∃ x, x = Value.slice Av ((ords (upTo s k).orders V.lines).length + 1) cv := ⟨_, rfl⟩
      have hO8 := hO7.box hBx7 1 vv
      have hBx8 := hBx7.setOrders vv
      rw [← upTo_succ hlt] at hO8
      have hbw8 := hbw7.setCell (p := ⟨b, 1, none⟩) hbb vv
      rw [hvv] at hO8 hBx8 hbw8
      clear hvv vv
      have hO8' := Lib.hid hO8
      have hBx8' := Lib.hid hBx8
      have q1 := hBx7.cells.2.1
      have qf := hBx7.frozen 1
      clear hO8 hBx8 hO7 hBx7 hO6 hown7 hg7 hat7 hbel7 huf hu6 hb14 hb15 hb16 hb4 hwa hla hlo z0 z1 zf y1
      go_wp2_with fail
      go_roundw
      case rel => exact ⟨k + 1, _, by omega, by go_num, hO8'.out, hBx8'.out, hbw8⟩
      case measure => simp [intOf]; omega
    · obtain rfl : k = s.orders.length := by omega
      rw [upTo_all] at hOw'
      have hR1 : Blk wr (w.heap.size + 1) _ _ := hsE.out ▸ hBlk0.out.below hbw hs1
      have hfz := hR1.frozen
      obtain ⟨b0, b1, b2, b3, b4, b5, b6⟩ := hbx'.out.cells
      have hone : V.cells.all (fun u => u.oneCell') = true := by
        have h := hOw'.out
        simp [SV.cells, own_one h.on, own_one h.orders, own_one h.holds, own_one h.moves, own_one h.inn, own_one h.out, own_one h.fixed]
      have hbx1 : BoxAt wr (w.heap.size + 1) ⟨nilV, nilV, nilV, nilV, nilV, nilV, nilV, [], []⟩ := hR1
      clear hfz
      go_wp2_with (refine wpList_store_state rfl (.tmp 2) (.tmp 43) rfl rfl (w.heap.size + 1) _ V hbx1 rfl rfl hone (fun w9 hbox9 hg9 => ?_))
      have hO9 := hOw'.out.keptBy hg9 hbx1.blk (by decide) (by decide) (by decide) (by decide) (by decide) (by decide)
      obtain ⟨p0, p1, p2, p3, p4, p5, p6⟩ := hbox9.cells
      have hbz : w.heap.size ≤ w.heap.size + 1 := by omega
      have hfin : Below w.heap.size w w9 := hB.grown hg9 hB.size (fun k hk => by injection hk with hk; omega)
      have hsB : w.heap.size ≤ W1.heap.size := hB1.size
      clear b0 b1 b2 b3 b4 b5 b6
      go_wp2_with fail
      exact bodyPost_ret (v := V.val) (by simp [results, Tryz.results61, go_sem, SV.val, p0, p1, p2, p3, p4, p5, p6]) rfl ⟨_, rfl, ⟨V, rfl, hO9.from_ hsB⟩, hfin⟩
end Wh
namespace Wh

theorem keptAt_cons (x : Hold) (l : List Hold) (o ln b : Int) : keptAt (x :: l) o ln b = if x.order = o ∧ x.line = ln ∧ x.bin = b then x.n else keptAt l o ln b := by
  unfold keptAt
  rw [List.find?_cons]
  by_cases hk : x.order = o ∧ x.line = ln ∧ x.bin = b
  · rw [if_pos hk, sameKey_iff.2 hk]
  · rw [if_neg hk, show sameKey o ln b x = false by rw [← Bool.not_eq_true, sameKey_iff]; exact hk]
theorem filter_none {α : Type} {p : α → Bool} {l : List α} (h : ∀ x ∈ l, p x = false) : l.filter p = [] := List.filter_eq_nil_iff.2 fun x hx => by rw [h x hx]; simp
/-- Right holds in three parts: before a place, there, behind it. -/
theorem sum_parts {h : Hold} (hk : keyOk h.order h.line h.bin) (F : Hold → Int) (f : Int → Int → Int → Int) (hF : ∀ x, F x = f x.order x.line x.bin * x.n) : ∀ {l : List Hold}, fine l → rises l →
    (l.map F).sum = ((l.filter fun x => decide (place x < place h)).map F).sum + f h.order h.line h.bin * keptAt l h.order h.line h.bin + ((l.filter fun x => decide (place h < place x)).map F).sum := by
  intro l
  induction l with
  | nil => intro _ _; simp [keptAt]
  | cons x l ih =>
    intro hf hr
    have hf' : fine l := fun h hm => hf h (List.mem_cons_of_mem _ hm)
    have hr' := List.pairwise_cons.1 hr
    have ih' := ih hf' hr'.2
    have hx := (fine_iff.1 (hf x (List.mem_cons_self ..))).1
    rw [List.map_cons, List.sum_cons, keptAt_cons]
    rcases Int.lt_trichotomy (place x) (place h) with h1 | h1 | h1
    · have hne : ¬ (x.order = h.order ∧ x.line = h.line ∧ x.bin = h.bin) := fun he => by
        rw [place_congr he] at h1; omega
      rw [if_neg hne, List.filter_cons_of_pos (by simpa using h1), List.filter_cons_of_neg (by simp; omega), List.map_cons, List.sum_cons, ih']
      omega
    · obtain ⟨e1, e2, e3⟩ := place_inj hx hk h1
      have hlt : (l.filter fun x => decide (place x < place h)) = [] := filter_none fun y hy => by
        have := hr'.1 y hy
        simp; omega
      have h0 : keptAt l h.order h.line h.bin = 0 := keptAt_none fun y hy he => by
        have h2 := hr'.1 y hy
        rw [place_congr he] at h2
        omega
      rw [if_pos ⟨e1, e2, e3⟩, List.filter_cons_of_neg (by simp; omega), List.filter_cons_of_neg (by simp; omega), ih', hlt, h0, hF x, e1, e2, e3]
      simp
    · have hne : ¬ (x.order = h.order ∧ x.line = h.line ∧ x.bin = h.bin) := fun he => by
        rw [place_congr he] at h1; omega
      have hlt : (l.filter fun x => decide (place x < place h)) = [] := filter_none fun y hy => by
        have := hr'.1 y hy
        simp; omega
      rw [if_neg hne, List.filter_cons_of_neg (by simp; omega), List.filter_cons_of_pos (by simpa using h1), List.map_cons, List.sum_cons, ih', hlt]
      simp
      omega
theorem sum_with {l : List Hold} {h : Hold} (hl : holdsOk l = true) (hk : keyOk h.order h.line h.bin) (F : Hold → Int) (f : Int → Int → Int → Int) (hF : ∀ x, F x = f x.order x.line x.bin * x.n) :
    ((withHold l h).map F).sum = (l.map F).sum + f h.order h.line h.bin * (h.n - keptAt l h.order h.line h.bin) := by
  obtain ⟨hf, hr⟩ := holdsOk_iff.1 hl
  rw [sum_parts hk F f hF hf hr]
  unfold withHold
  rw [List.map_append, List.map_append, List.sum_append, List.sum_append, Int.mul_sub]
  by_cases h0 : h.n = 0
  · rw [if_pos h0, h0]
    simp
    omega
  · rw [if_neg h0]
    simp only [List.map_cons, List.map_nil, List.sum_cons, List.sum_nil, hF h]
    omega

-- orders and lines after a store
theorem orderAt_set {l : List Order} {o : Nat} (ho : o < l.length) (x : Order) (o' : Nat) : orderAt (l.set o x) o' = if o' = o then x else orderAt l o' := by
  unfold orderAt
  by_cases h : o' = o
  · subst h
    simp [ho]
  · rw [if_neg h]
    simp [Ne.symm h]
theorem lineAt_set {l : List Line} {k : Nat} (hk : k < l.length) (x : Line) (k' : Nat) : lineAt (l.set k x) k' = if k' = k then x else lineAt l k' := by
  unfold lineAt
  by_cases h : k' = k
  · subst h
    simp [hk]
  · rw [if_neg h]
    simp [Ne.symm h]
theorem order_setLine {s : State} {o : Nat} (ho : o < s.orders.length) (k : Nat) (y : Line) (o' : Nat) : (s.setLine o k y).order o' = if o' = o then { s.order o with lines := (s.order o).lines.set k y } else s.order o' := orderAt_set ho _ _
theorem line_setLine {s : State} {o k : Nat} (ho : o < s.orders.length) (hk : k < (s.order o).lines.length) (y : Line) (o' k' : Nat) : (s.setLine o k y).line o' k' = if o' = o ∧ k' = k then y else s.line o' k' := by
  unfold State.line
  rw [order_setLine ho]
  by_cases h : o' = o
  · subst h
    rw [if_pos rfl]
    simp only [true_and]
    exact lineAt_set hk _ _
  · rw [if_neg h, if_neg (fun h' => h h'.1)]
theorem orders_setLine (s : State) (o k : Nat) (y : Line) : (s.setLine o k y).orders.length = s.orders.length := by unfold State.setLine; simp
theorem kind_setLine {s : State} {o : Nat} (ho : o < s.orders.length) (k : Nat) (y : Line) (o' : Nat) : ((s.setLine o k y).order o').kind = (s.order o').kind := by
  rw [order_setLine ho]
  split
  · rename_i h; rw [h]
  · rfl
theorem lines_setLine {s : State} {o : Nat} (ho : o < s.orders.length) (k : Nat) (y : Line) (o' : Nat) : ((s.setLine o k y).order o').lines.length = (s.order o').lines.length := by
  rw [order_setLine ho]
  split
  · rename_i h; rw [h]; simp
  · rfl

/-- What is held hangs on the holds and the lines' goods alone. -/
theorem heldIn_congr {s t : State} (hh : t.holds = s.holds) (hg : ∀ o k, (t.line o k).good = (s.line o k).good) (b g : Int) : heldIn t b g = heldIn s b g := by
  unfold heldIn
  rw [hh]
  congr 1
  apply List.map_congr_left
  intro h _
  unfold heldN
  rw [hg]
theorem heldIn_with {s : State} {h : Hold} (hl : holdsOk s.holds = true) (hk : keyOk h.order h.line h.bin) (b g : Int) :
    heldIn { s with holds := withHold s.holds h } b g = heldIn s b g + if h.bin = b ∧ (s.line h.order.toNat h.line.toNat).good = g then h.n - keptAt s.holds h.order h.line h.bin else 0 := by
  have := sum_with hl hk (heldN s b g) (fun o ln b' => if b' = b ∧ (s.line o.toNat ln.toNat).good = g then 1 else 0) (fun x => by
    unfold heldN
    split <;> simp)
  have e : heldIn { s with holds := withHold s.holds h } b g = ((withHold s.holds h).map (heldN s b g)).sum := rfl
  rw [e, this]
  congr 1
  split <;> simp

/-- A state that is as it must be, but maybe that an order is to be closed. -/
structure Right (p : Plan) (s : State) : Prop where
  sane : Sane p s
  good : ∀ g, g < p.sizes.length → goodSummed p s g = true
  line : ∀ o k, o < s.orders.length → k < (s.order o).lines.length → lineSummed s o k = true

theorem check_iff {p : Plan} {s : State} : checkState p s = 0 ↔ Right p s ∧ ∀ o, o < s.orders.length → ¬ ((s.order o).kind = 1 ∧ allGot (s.order o) = true) := by
  rw [checkState_zero, summed_iff]
  constructor
  · rintro ⟨h1, h2, h3⟩
    exact ⟨⟨h1, h2, fun o k ho hk => (orderSummed_iff.1 (h3 o ho)).2 k hk⟩, fun o ho => (orderSummed_iff.1 (h3 o ho)).1⟩
  · rintro ⟨⟨h1, h2, h3⟩, h4⟩
    exact ⟨h1, h2, fun o ho => orderSummed_iff.2 ⟨h4 o ho, fun k hk => h3 o k ho hk⟩⟩
theorem right_of_check {p : Plan} {s : State} (h : checkState p s = 0) : Right p s := (check_iff.1 h).1

theorem mem_line {s : State} {o : Nat} {x : Line} (hx : x ∈ (s.order o).lines) : ∃ k, k < (s.order o).lines.length ∧ s.line o k = x := by
  obtain ⟨k, hk, rfl⟩ := List.getElem_of_mem hx
  exact ⟨k, hk, by unfold State.line; rw [lineAt_eq hk]⟩
/-- Built from what its parts are. -/
theorem Sane.of {p : Plan} {s : State} (h1 : checkShelf p s.on = 0) (h2 : s.orders.length ≤ 4) (h3 : s.moves.length ≤ 8) (h4 : ∀ o, o < s.orders.length → (1 ≤ (s.order o).lines.length ∧ (s.order o).lines.length ≤ 3) ∧ 0 ≤ (s.order o).kind ∧ (s.order o).kind ≤ 2)
    (h5 : ∀ o k, o < s.orders.length → k < (s.order o).lines.length → lineOk p (s.line o k) = true) (h6 : holdsOk s.holds = true) (h7 : ∀ x ∈ s.holds, holdIn p s x = true) (h8 : ∀ x ∈ s.moves, moveOk p x = true)
    (h9 : sumsOk p s.inn 0 = true) (h10 : sumsOk p s.out 0 = true) (h11 : sumsOk p s.fixed (-1048576) = true) : Sane p s := by
  refine ⟨h1, manyOk_iff.2 ⟨h2, h3, all_of dOrder fun o ho => within_iff.2 ?_⟩, formed_iff.2 ⟨all_of dOrder fun o ho => orderOk_iff.2 ⟨(h4 o ho).2, List.all_eq_true.2 fun x hx => ?_⟩, h6, List.all_eq_true.2 h7, List.all_eq_true.2 h8, h9, h10, h11⟩⟩
  · have := (h4 o ho).1
    unfold State.order orderAt at this
    omega
  · obtain ⟨k, hk, rfl⟩ := mem_line (s := s) (o := o) hx
    exact h5 o k ho hk
theorem Right.of {p : Plan} {s : State} (h : Sane p s) (h1 : ∀ g, g < p.sizes.length → sumOf s.on g = intAt s.inn g - intAt s.out g + intAt s.fixed g) (h2 : ∀ b g : Nat, b < p.bins.length → g < p.sizes.length → bound s b g ≤ cell s.on b g)
    (h3 : ∀ o k, o < s.orders.length → k < (s.order o).lines.length → lineSummed s o k = true) : Right p s :=
  ⟨h, fun g hg => goodSummed_iff.2 ⟨h1 g hg, fun b hb => h2 b g hb hg⟩, h3⟩

namespace Right
variable {p : Plan} {s : State} (h : Right p s)
include h
theorem sum {g : Nat} (hg : g < p.sizes.length) : sumOf s.on g = intAt s.inn g - intAt s.out g + intAt s.fixed g := (goodSummed_iff.1 (h.good g hg)).1
theorem bnd {b g : Nat} (hb : b < p.bins.length) (hg : g < p.sizes.length) : bound s b g ≤ cell s.on b g := (goodSummed_iff.1 (h.good g hg)).2 b hb
theorem lineSum {o k : Nat} (ho : o < s.orders.length) (hk : k < (s.order o).lines.length) : (s.line o k).got + (s.line o k).back + kept s.holds o k = (if (s.order o).kind = 0 then 0 else (s.line o k).want) ∧ ¬ ((s.order o).kind = 2 ∧ 0 < kept s.holds o k) := lineSummed_iff.1 (h.line o k ho hk)
theorem avail_range {b g : Nat} (hb : b < p.bins.length) (hg : g < p.sizes.length) : 0 ≤ avail s b g ∧ avail s b g ≤ cell s.on b g := by
  have h1 := h.bnd hb hg
  have h2 := bound_range h.sane b g
  unfold avail
  simp only [Int.toNat_natCast]
  omega
end Right

-- one more hold
section
variable {p : Plan} {s : State} {o k b : Nat} {m : Int}
theorem kept_pos {l : List Hold} (hl : holdsOk l = true) (o ln b : Int) : 0 ≤ keptAt l o ln b := (keptAt_range (holdsOk_iff.1 hl).1 (holdsOk_iff.1 hl).2 o ln b).1
theorem keptAt_held (hs : Sane p s) (o k b : Int) : keptAt s.holds o k b ≤ heldIn s b (s.line o.toNat k.toNat).good := by
  by_cases h0 : keptAt s.holds o k b = 0
  · rw [h0]
    have := heldTo_range hs b (s.line o.toNat k.toNat).good s.holds.length
    rw [heldTo_all] at this
    omega
  · obtain ⟨h1, h2⟩ := holdsOk_iff.1 hs.holds
    obtain ⟨hk, hm⟩ := keptAt_key h1 h2 h0
    have h3 : ∀ l : List Hold, (∀ x ∈ l, 1 ≤ x.n) → ∀ x ∈ l, heldN s b (s.line o.toNat k.toNat).good x ≤ (l.map (heldN s b (s.line o.toNat k.toNat).good)).sum ∧ 0 ≤ (l.map (heldN s b (s.line o.toNat k.toNat).good)).sum := by
      intro l
      induction l with
      | nil => simp
      | cons y l ih =>
        intro hn x hx
        have hy := hn y (by simp)
        have hyn : 0 ≤ heldN s b (s.line o.toNat k.toNat).good y := by unfold heldN; split <;> omega
        have hl0 : 0 ≤ (l.map (heldN s b (s.line o.toNat k.toNat).good)).sum := by
          cases l with
          | nil => simp
          | cons z l => exact (ih (fun x hx => hn x (by simp at hx ⊢; exact .inr hx)) z (by simp)).2
        rw [List.map_cons, List.sum_cons]
        rcases List.mem_cons.1 hx with rfl | hx
        · exact ⟨by omega, by omega⟩
        · have := ih (fun x hx => hn x (List.mem_cons_of_mem _ hx)) x hx
          omega
    have h4 := (h3 s.holds (fun x hx => (fine_iff.1 (h1 x hx)).2.1) _ hm).1
    have h5 : heldN s b (s.line o.toNat k.toNat).good ⟨o, k, b, keptAt s.holds o k b⟩ = keptAt s.holds o k b := by
      unfold heldN
      exact if_pos ⟨rfl, rfl⟩
    rw [h5] at h4
    exact h4
theorem goingOf_nonneg (hs : Sane p s) (b g : Int) : 0 ≤ goingOf s.moves b g := by
  have := goingTo_range hs b g s.moves.length
  rw [goingTo_all] at this
  exact this.1
theorem key_of (hs : Sane p s) (ho : o < s.orders.length) (hk : k < (s.order o).lines.length) (hb : b < p.bins.length) : keyOk o k b := by
  have h4 := hs.orders4
  have h3 := hs.lines3 ho
  have hc := hs.counts
  unfold keyOk
  omega
/-- What one more hold needs. -/
structure Fits (p : Plan) (s : State) (o k b : Nat) (m : Int) : Prop where
  ho : o < s.orders.length
  hk : k < (s.order o).lines.length
  hb : b < p.bins.length
  kind : (s.order o).kind = 1
  m1 : 1 ≤ m
  av : m ≤ avail s b (s.line o k).good
  back : m ≤ (s.line o k).back
variable (h : Right p s) (f : Fits p s o k b m)
include h f
theorem fits_good : ((s.line o k).good.toNat : Int) = (s.line o k).good ∧ (s.line o k).good.toNat < p.sizes.length := by
  have := (h.sane.line f.ho f.hk).1
  omega
theorem fits_kept : 0 ≤ keptAt s.holds o k b ∧ keptAt s.holds o k b + m ≤ 200 := by
  obtain ⟨e, hg⟩ := fits_good h f
  have h1 := keptAt_held h.sane o k b
  have h2 := goingOf_nonneg h.sane b (s.line o k).good
  have h3 := f.av
  have h4 := h.sane.cell f.hb hg
  unfold avail bound at h3
  simp only [Int.toNat_natCast] at h1 h3
  exact ⟨kept_pos h.sane.holds _ _ _, by omega⟩
theorem hold1_holdsOk : holdsOk (hold1 s o k b m).holds = true := by
  have := fits_kept h f
  have hm := f.m1
  exact with_ok h.sane.holds (key_of h.sane f.ho f.hk f.hb) ⟨by show 0 ≤ keptAt s.holds o k b + m; omega, this.2⟩
theorem hold1_keptAt (o' k' b' : Int) : keptAt (hold1 s o k b m).holds o' k' b' = keptAt s.holds o' k' b' + if (o : Int) = o' ∧ (k : Int) = k' ∧ (b : Int) = b' then m else 0 := by
  have := fits_kept h f
  have hm := f.m1
  have e := keptAt_with (h := ⟨o, k, b, keptAt s.holds o k b + m⟩) h.sane.holds (key_of h.sane f.ho f.hk f.hb) ⟨by show 0 ≤ keptAt s.holds o k b + m; omega, this.2⟩ o' k' b'
  refine e.trans ?_
  simp only
  split
  · rename_i hq
    obtain ⟨rfl, rfl, rfl⟩ := hq
    rfl
  · omega
theorem hold1_kept (o' k' : Int) : kept (hold1 s o k b m).holds o' k' = kept s.holds o' k' + if (o : Int) = o' ∧ (k : Int) = k' then m else 0 := by
  have := fits_kept h f
  have hm := f.m1
  have e := kept_with (h := ⟨o, k, b, keptAt s.holds o k b + m⟩) h.sane.holds (key_of h.sane f.ho f.hk f.hb) ⟨by show 0 ≤ keptAt s.holds o k b + m; omega, this.2⟩ o' k'
  refine e.trans ?_
  simp only
  congr 1
  split <;> omega
omit h in
theorem hold1_line (o' k' : Nat) : (hold1 s o k b m).line o' k' = if o' = o ∧ k' = k then { s.line o k with back := (s.line o k).back - m } else s.line o' k' :=
  line_setLine (s := { s with holds := withHold s.holds ⟨o, k, b, keptAt s.holds o k b + m⟩ }) f.ho f.hk _ o' k'
omit h in
theorem hold1_kind (o' : Nat) : ((hold1 s o k b m).order o').kind = (s.order o').kind := kind_setLine (s := { s with holds := withHold s.holds ⟨o, k, b, keptAt s.holds o k b + m⟩ }) f.ho _ _ _
omit h in
theorem hold1_lines (o' : Nat) : ((hold1 s o k b m).order o').lines.length = (s.order o').lines.length := lines_setLine (s := { s with holds := withHold s.holds ⟨o, k, b, keptAt s.holds o k b + m⟩ }) f.ho _ _ _
omit h f in
theorem hold1_orders : (hold1 s o k b m).orders.length = s.orders.length := orders_setLine _ _ _ _
omit h in
theorem hold1_fixedLine (o' k' : Nat) : ((hold1 s o k b m).line o' k').good = (s.line o' k').good ∧ ((hold1 s o k b m).line o' k').want = (s.line o' k').want ∧ ((hold1 s o k b m).line o' k').got = (s.line o' k').got := by
  rw [hold1_line f]
  split
  · rename_i hq
    obtain ⟨rfl, rfl⟩ := hq
    exact ⟨rfl, rfl, rfl⟩
  · exact ⟨rfl, rfl, rfl⟩
theorem hold1_bound (b' g : Int) : bound (hold1 s o k b m) b' g = bound s b' g + if (b : Int) = b' ∧ (s.line o k).good = g then m else 0 := by
  have e1 : heldIn (hold1 s o k b m) b' g = heldIn { s with holds := withHold s.holds ⟨o, k, b, keptAt s.holds o k b + m⟩ } b' g :=
    heldIn_congr (s := { s with holds := withHold s.holds ⟨o, k, b, keptAt s.holds o k b + m⟩ }) (t := hold1 s o k b m) rfl (fun o' k' => (hold1_fixedLine f o' k').1) b' g
  have e2 := heldIn_with (s := s) (h := ⟨o, k, b, keptAt s.holds o k b + m⟩) h.sane.holds (key_of h.sane f.ho f.hk f.hb) b' g
  unfold bound
  rw [e1, e2]
  simp only [Int.toNat_natCast]
  have : goingOf (hold1 s o k b m).moves b' g = goingOf s.moves b' g := rfl
  rw [this]
  split <;> omega
theorem hold1_avail (b' : Nat) (g : Int) : avail (hold1 s o k b m) b' g = avail s b' g - if b = b' ∧ (s.line o k).good = g then m else 0 := by
  unfold avail
  rw [hold1_bound h f]
  have : (hold1 s o k b m).on = s.on := rfl
  rw [this]
  simp only [Int.natCast_inj]
  omega
theorem hold1_right : Right p (hold1 s o k b m) := by
  obtain ⟨e, hg⟩ := fits_good h f
  have hm := f.m1
  have hbk := f.back
  have hav := f.av
  refine Right.of (Sane.of h.sane.shelf (by rw [hold1_orders]; exact h.sane.orders4) h.sane.moves8 (fun o' ho' => ?_) (fun o' k' ho' hk' => ?_) (hold1_holdsOk h f) (fun x hx => ?_) (fun x hx => List.all_eq_true.1 (formed_iff.1 h.sane.form).2.2.2.1 x hx)
    (formed_iff.1 h.sane.form).2.2.2.2.1 (formed_iff.1 h.sane.form).2.2.2.2.2.1 (formed_iff.1 h.sane.form).2.2.2.2.2.2) (fun g hg => h.sum hg) (fun b' g hb' hg' => ?_) (fun o' k' ho' hk' => ?_)
  · rw [hold1_orders] at ho'
    rw [hold1_lines f, hold1_kind f]
    exact ⟨h.sane.lines3 ho', h.sane.kind ho'⟩
  · rw [hold1_orders] at ho'
    rw [hold1_lines f] at hk'
    have hl := h.sane.line ho' hk'
    rw [hold1_line f, lineOk_iff]
    split
    · rename_i hq
      obtain ⟨rfl, rfl⟩ := hq
      simp only
      omega
    · exact hl
  · have hin : holdIn p s x = true := by
      rcases with_mem.1 hx with ⟨h1, _⟩ | ⟨rfl, _⟩
      · exact List.all_eq_true.1 (formed_iff.1 h.sane.form).2.2.1 x h1
      · refine holdIn_iff.2 ⟨?_, ?_, ?_⟩
        · have := f.ho; show (o : Int) < _; omega
        · have := f.hk; show (k : Int) < _; simp only [Int.toNat_natCast]; omega
        · have := f.hb; show (b : Int) < _; omega
    have := holdIn_iff.1 hin
    exact holdIn_iff.2 ⟨by rw [hold1_orders]; exact this.1, by rw [hold1_lines f]; exact this.2.1, this.2.2⟩
  · have h1 := h.bnd hb' hg'
    rw [hold1_bound h f]
    have : (hold1 s o k b m).on = s.on := rfl
    rw [this]
    split
    · rename_i hq
      obtain ⟨hq1, hq2⟩ := hq
      have hbb : b = b' := by omega
      subst hbb
      rw [hq2] at hav
      unfold avail at hav
      simp only [Int.toNat_natCast] at hav
      omega
    · omega
  · rw [hold1_orders] at ho'
    rw [hold1_lines f] at hk'
    obtain ⟨l1, l2⟩ := h.lineSum ho' hk'
    obtain ⟨g1, g2, g3⟩ := hold1_fixedLine (m := m) f o' k'
    refine lineSummed_iff.2 ?_
    rw [g2, g3, hold1_kept h f, hold1_kind f]
    have hb2 : ((hold1 s o k b m).line o' k').back = (s.line o' k').back - if (o : Int) = o' ∧ (k : Int) = k' then m else 0 := by
      rw [hold1_line f]
      by_cases hq : o' = o ∧ k' = k
      · obtain ⟨rfl, rfl⟩ := hq
        simp
      · rw [if_neg hq, if_neg (by omega)]
        omega
    rw [hb2]
    refine ⟨by omega, ?_⟩
    rintro ⟨hk2, hpos⟩
    by_cases hq : (o : Int) = o' ∧ (k : Int) = k'
    · have : o = o' := by omega
      subst this
      have := f.kind
      omega
    · rw [if_neg hq] at hpos
      exact l2 ⟨hk2, by omega⟩
end
end Wh
