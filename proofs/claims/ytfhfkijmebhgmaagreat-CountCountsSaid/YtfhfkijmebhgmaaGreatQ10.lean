/- Texts of the claim, joined: StateL. -/
import Derived.Test.YtfhfkijmebhgmaaGreatQ06
import Derived.Test.YtfhfkijmebhgmaaGreatQ07
import Derived.Test.YtfhfkijmebhgmaaGreatQ08
import Derived.Test.YtfhfkijmebhgmaaGreatQ09
namespace Wh
open Go Go.RowKit Go.Shelf Go.Proofs
attribute [local go_sem] run_indexAt_letter evL_tmp evL_const evL_func

theorem own_or {α : Type} {enc : α → List Value} {size : Nat} {e : TypeId} {w : World} {base : Nat} {v : Value} {l : List α} (h : Own enc size e w base v l) {row : Option Nat} (hn : ∀ g, base ≤ g → some g ≠ row) : v.ownBlock = none ∨ v.ownBlock ≠ row := by
  cases hv : v.ownBlock with
  | none => exact .inl rfl
  | some g => exact .inr (hn g (h.size g hv).1)

set_option maxHeartbeats 8000000 in
set_option maxRecDepth 100000 in
theorem rOwnState (w : World) (v : Value) (p : Plan) (s : State) (hv : StateV w w.heap.size v s) (hs : Sane p s) :
    Calls Tryz.prog 16 #[v] w (Gives (fun u w' => ∃ V, u = V.val ∧ OwnSt w' w.heap.size V s) w) := by
  have h4 := hs.orders4
  have h8 := hs.moves8
  have h72 := ok_len72 hs.holds
  have hcnt := hs.counts
  have hsH := Lib.hid hs
  clear hs
  obtain ⟨A0, c0, A1, c1, A2, c2, A3, c3, A4, c4, A5, c5, A6, c6, rfl, hV, hN, hO, hH, hM, hI, hU, hX, hl0, hl1, hl2, hl3, hl4, hl5, hl6⟩ := openOne hv
  go_enter Tryz.func16, Tryz.ntmps16
  go_wp2_with fail
  obtain ⟨W0, hW0, hb0, hsz0, hsz1, hsE, hK⟩ := boxesOne w s A0 c0 A1 c1 A2 c2 A3 c3 A4 c4 A5 c5 A6 c6
  rw [hW0]
  clear hW0
  generalize hW1 : W0.alloc _ = W1
  have hb1 : Below W0.heap.size W0 W1 := by rw [← hW1]; exact (Below.refl _ _).alloc (Nat.le_refl _) _
  have hs1 : W0.heap.size < W1.heap.size := by rw [← hW1]; simp
  have hBlk0 := Lib.hid (show Blk W1 W0.heap.size 31 [.slice none 0 0, .slice none 0 0, .slice none 0 0, .slice none 0 0, .slice none 0 0, .slice none 0 0, .slice none 0 0] by rw [← hW1]; exact Blk.new _ _ _)
  clear hW1
  have hB1 := hb0.trans (hb1.mono hb0.size)
  have hrows : ∀ k, k < s.on.length → 0 < (rowAt s.on k).length ∧ (rowAt s.on k).length ≤ 1000 := fun k hk => by
    have := hsH.out.rowLen (b := k) (by rw [← hsH.out.onLen]; exact hk)
    omega
  have hon : s.on.length ≤ 1000 := by rw [hsH.out.onLen]; omega
  have hrows' := Lib.hid hrows
  have hil' := Lib.hid hsH.out.inn.1
  have hul' := Lib.hid hsH.out.out.1
  have hxl' := Lib.hid hsH.out.fixed.1
  clear hrows
  refine wp_region_ops 25 [
    fun g _ => g 5 = .pointer (some ⟨w.heap.size, 0, none⟩),
    fun g _ => g 6 = .slice A0 s.on.length c0,
    fun g w' => (fun v w' => ∃ gs, OwnOn 23 3 w' W1.heap.size (v) s.on gs) (g 7) w',
    fun g w' => (fun v w' => ∃ b, v = .slice (some ⟨b, 0, none⟩) 0 0 ∧ W1.heap.size ≤ b ∧ Blk w' b 46 []) (g 8) w',
    fun g _ => g 9 = .pointer (some ⟨w.heap.size, 2, none⟩),
    fun g _ => g 10 = .slice A2 s.holds.length c2,
    fun g w' => Own cHold 4 46 w' W1.heap.size (g 11) s.holds ∧ ∃ gs, OwnOn 23 3 w' W1.heap.size (g 7) s.on gs,
    fun g w' => (fun v w' => ∃ b, v = .slice (some ⟨b, 0, none⟩) 0 0 ∧ W1.heap.size ≤ b ∧ Blk w' b 48 []) (g 12) w',
    fun g _ => g 13 = .pointer (some ⟨w.heap.size, 3, none⟩),
    fun g _ => g 14 = .slice A3 s.moves.length c3,
    fun g w' => Own cMove 4 48 w' W1.heap.size (g 15) s.moves ∧ ∃ gs, OwnOn 23 3 w' W1.heap.size (g 7) s.on gs,
    fun g w' => (fun v w' => ∃ b, v = .slice (some ⟨b, 0, none⟩) 0 0 ∧ W1.heap.size ≤ b ∧ Blk w' b 3 []) (g 16) w',
    fun g _ => g 17 = .pointer (some ⟨w.heap.size, 4, none⟩),
    fun g _ => g 18 = .slice A4 s.inn.length c4,
    fun g w' => NumsI w' W1.heap.size s.on s.inn (g 7) (g 19),
    fun g w' => (fun v w' => ∃ b, v = .slice (some ⟨b, 0, none⟩) 0 0 ∧ W1.heap.size ≤ b ∧ Blk w' b 3 []) (g 20) w',
    fun g _ => g 21 = .pointer (some ⟨w.heap.size, 5, none⟩),
    fun g _ => g 22 = .slice A5 s.out.length c5,
    fun g w' => NumsU w' W1.heap.size s.on s.inn s.out (g 7) (g 19) (g 23),
    fun g w' => (fun v w' => ∃ b, v = .slice (some ⟨b, 0, none⟩) 0 0 ∧ W1.heap.size ≤ b ∧ Blk w' b 3 []) (g 24) w',
    fun g _ => g 25 = .pointer (some ⟨w.heap.size, 6, none⟩),
    fun g _ => g 26 = .slice A6 s.fixed.length c6,
    fun g w' => NumsX w' W1.heap.size s.on s.inn s.out s.fixed (g 7) (g 19) (g 23) (g 27),
    fun g _ => g 28 = .agg #[g 7, .slice none 0 0, g 11, g 15, g 19, g 23, g 27],
    fun g w' => (fun v w' => ∃ b, v = .pointer (some ⟨b, 0, none⟩) ∧ W1.heap.size ≤ b ∧ BoxAt w' b ⟨nilV, nilV, nilV, nilV, nilV, nilV, nilV, [], []⟩) (g 3) w'] (by kernel_rfl) (by kernel_rfl) rfl (by kernel_rfl) ?_ (fun f w2 hb2 hR => ?_)
  simp only [List.take_succ_cons, List.take_zero]
  refine OpsOK.cons (OpOK.val rfl rfl (fun g w' hb ho hd => ?_)) ?_
  · have e1 := ho 1 rfl
    go_simp
  refine OpsOK.cons (OpOK.val rfl rfl (fun g w' hb ho hd => ?_)) ?_
  · have e1 : g 5 = .pointer (some ⟨w.heap.size, 0, none⟩) := hd ⟨0, .data⟩ (by simp) rfl (by decide)
    obtain ⟨_, x0, x1, x2, x3, x4, x5, x6, _⟩ := hK.out w' (hb1.trans (hb.mono hb1.size))
    go_simp
  refine OpsOK.cons (OpOK.one (d := 7) (p := (fun v w' => ∃ gs, OwnOn 23 3 w' W1.heap.size (v) s.on gs)) rfl rfl (fun v w1 w2 h hb => h.elim fun gs h => ⟨gs, h.below hb⟩) (fun g w' hb ho hd => ?_)) ?_
  · have e1 : g 6 = .slice A0 s.on.length c0 := hd ⟨1, .data⟩ (by simp) rfl (by decide)
    unfold OpRel
    go_simp
    refine (rOwnOn w' _ s.on (hN.out w' (hB1.trans (hb.mono hB1.size))) hon hrows'.out).mono ?_
    rintro e w2 ⟨u, rfl, ⟨gs, h⟩, hb2⟩
    exact ⟨u, rfl, ⟨gs, h.from_ hb.size⟩, hb2⟩
  refine OpsOK.cons (OpOK.one (d := 8) (p := (fun v w' => ∃ b, v = .slice (some ⟨b, 0, none⟩) 0 0 ∧ W1.heap.size ≤ b ∧ Blk w' b 46 [])) rfl rfl (fun v w1 w2 h hb => h.elim fun b h => ⟨b, h.1, h.2.1, h.2.2.below hb h.2.2.lt⟩) (fun g w' hb ho hd => ?_)) ?_
  · unfold OpRel
    go_simp
    exact ⟨⟨hb.size, Blk.new _ _ _⟩, (Below.refl _ _).alloc (Nat.le_refl _) _⟩
  refine OpsOK.cons (OpOK.val rfl rfl (fun g w' hb ho hd => ?_)) ?_
  · have e1 := ho 1 rfl
    go_simp
  refine OpsOK.cons (OpOK.val rfl rfl (fun g w' hb ho hd => ?_)) ?_
  · have e1 : g 9 = .pointer (some ⟨w.heap.size, 2, none⟩) := hd ⟨4, .data⟩ (by simp) rfl (by decide)
    obtain ⟨_, x0, x1, x2, x3, x4, x5, x6, _⟩ := hK.out w' (hb1.trans (hb.mono hb1.size))
    go_simp
  refine OpsOK.cons (⟨fun g w1 w2 h hb => ⟨h.1.below hb, h.2.elim fun gs h => ⟨gs, h.below hb⟩⟩, fun g g' w1 he h => ?_, fun g w' hb ho hd => ?_⟩) ?_
  · have e0 := he 2 _ 7 (.back (i := 6) (e := ⟨2, .chain⟩) rfl (by simp) rfl rfl (.self 2)) rfl rfl
    have e2 := he 6 _ 11 (.self 6) rfl rfl
    simp only [e0, e2] at h
    exact h
  · have e1 : g 10 = .slice A2 s.holds.length c2 := hd ⟨5, .data⟩ (by simp) rfl (by decide)
    have e2 : ∃ gs, OwnOn 23 3 w' W1.heap.size (g 7) s.on gs := hd ⟨2, .chain⟩ (by simp) rfl (by decide)
    have e2' := Lib.hid e2
    clear e2
    obtain ⟨bb, e3, hbb, hblk⟩ : ∃ b, g 8 = .slice (some ⟨b, 0, none⟩) 0 0 ∧ W1.heap.size ≤ b ∧ Blk w' b 46 [] := hd ⟨3, .data⟩ (by simp) rfl (by decide)
    have hAt := (hH.out w' (hB1.trans (hb.mono hB1.size))).at_
    obtain ⟨u, w2, hr, hb2, h0, h⟩ := run_append_fresh (P := Tryz.prog) w' 28 28 46 _ 4 32 Tryz.underlying28 infoHold rfl (by decide) (by decide) bb hblk s.holds A2 c2 w'.heap.size (fun _ => rfl) hAt (by omega)
    unfold OpRel
    simp only [execOp, resolve, invoke, builtin, evL_tmp, e1, e3, Sem.run_bind, Sem.run_pure, Result.andThen_ok, List.map_toArray, List.map_cons, List.map_nil, hr]
    have hfin : Own cHold 4 46 w2 W1.heap.size (u) s.holds ∧ ∃ gs, OwnOn 23 3 w2 W1.heap.size (g 7) s.on gs := ⟨h0.from_ hbb, e2'.out.elim fun gs h => ⟨gs, h.below hb2⟩⟩
    exact ⟨by simpa [updO, upd] using hfin, hb2⟩
  refine OpsOK.cons (OpOK.one (d := 12) (p := (fun v w' => ∃ b, v = .slice (some ⟨b, 0, none⟩) 0 0 ∧ W1.heap.size ≤ b ∧ Blk w' b 48 [])) rfl rfl (fun v w1 w2 h hb => h.elim fun b h => ⟨b, h.1, h.2.1, h.2.2.below hb h.2.2.lt⟩) (fun g w' hb ho hd => ?_)) ?_
  · unfold OpRel
    go_simp
    exact ⟨⟨hb.size, Blk.new _ _ _⟩, (Below.refl _ _).alloc (Nat.le_refl _) _⟩
  refine OpsOK.cons (OpOK.val rfl rfl (fun g w' hb ho hd => ?_)) ?_
  · have e1 := ho 1 rfl
    go_simp
  refine OpsOK.cons (OpOK.val rfl rfl (fun g w' hb ho hd => ?_)) ?_
  · have e1 : g 13 = .pointer (some ⟨w.heap.size, 3, none⟩) := hd ⟨8, .data⟩ (by simp) rfl (by decide)
    obtain ⟨_, x0, x1, x2, x3, x4, x5, x6, _⟩ := hK.out w' (hb1.trans (hb.mono hb1.size))
    go_simp
  refine OpsOK.cons (⟨fun g w1 w2 h hb => ⟨h.1.below hb, h.2.elim fun gs h => ⟨gs, h.below hb⟩⟩, fun g g' w1 he h => ?_, fun g w' hb ho hd => ?_⟩) ?_
  · have e0 := he 2 _ 7 (.back (i := 10) (e := ⟨6, .chain⟩) rfl (by simp) rfl rfl (.back (i := 6) (e := ⟨2, .chain⟩) rfl (by simp) rfl rfl (.self 2))) rfl rfl
    have e3 := he 10 _ 15 (.self 10) rfl rfl
    simp only [e0, e3] at h
    exact h
  · have e1 : g 14 = .slice A3 s.moves.length c3 := hd ⟨9, .data⟩ (by simp) rfl (by decide)
    have e2 : Own cHold 4 46 w' W1.heap.size (g 11) s.holds ∧ ∃ gs, OwnOn 23 3 w' W1.heap.size (g 7) s.on gs := hd ⟨6, .chain⟩ (by simp) rfl (by decide)
    have e2' := Lib.hid e2
    clear e2
    obtain ⟨bb, e3, hbb, hblk⟩ : ∃ b, g 12 = .slice (some ⟨b, 0, none⟩) 0 0 ∧ W1.heap.size ≤ b ∧ Blk w' b 48 [] := hd ⟨7, .data⟩ (by simp) rfl (by decide)
    have hAt := (hM.out w' (hB1.trans (hb.mono hB1.size))).at_
    obtain ⟨u, w2, hr, hb2, h0, h⟩ := run_append_fresh (P := Tryz.prog) w' 29 29 48 _ 4 32 Tryz.underlying29 infoMove rfl (by decide) (by decide) bb hblk s.moves A3 c3 w'.heap.size (fun _ => rfl) hAt (by omega)
    unfold OpRel
    simp only [execOp, resolve, invoke, builtin, evL_tmp, e1, e3, Sem.run_bind, Sem.run_pure, Result.andThen_ok, List.map_toArray, List.map_cons, List.map_nil, hr]
    have hfin : Own cMove 4 48 w2 W1.heap.size (u) s.moves ∧ ∃ gs, OwnOn 23 3 w2 W1.heap.size (g 7) s.on gs := ⟨h0.from_ hbb, e2'.out.2.elim fun gs h => ⟨gs, h.below hb2⟩⟩
    exact ⟨by simpa [updO, upd] using hfin, hb2⟩
  refine OpsOK.cons (OpOK.one (d := 16) (p := (fun v w' => ∃ b, v = .slice (some ⟨b, 0, none⟩) 0 0 ∧ W1.heap.size ≤ b ∧ Blk w' b 3 [])) rfl rfl (fun v w1 w2 h hb => h.elim fun b h => ⟨b, h.1, h.2.1, h.2.2.below hb h.2.2.lt⟩) (fun g w' hb ho hd => ?_)) ?_
  · unfold OpRel
    go_simp
    exact ⟨⟨hb.size, Blk.new _ _ _⟩, (Below.refl _ _).alloc (Nat.le_refl _) _⟩
  refine OpsOK.cons (OpOK.val rfl rfl (fun g w' hb ho hd => ?_)) ?_
  · have e1 := ho 1 rfl
    go_simp
  refine OpsOK.cons (OpOK.val rfl rfl (fun g w' hb ho hd => ?_)) ?_
  · have e1 : g 17 = .pointer (some ⟨w.heap.size, 4, none⟩) := hd ⟨12, .data⟩ (by simp) rfl (by decide)
    obtain ⟨_, x0, x1, x2, x3, x4, x5, x6, _⟩ := hK.out w' (hb1.trans (hb.mono hb1.size))
    go_simp
  refine OpsOK.cons (⟨fun g w1 w2 h hb => h.below hb, fun g g' w1 he h => ?_, fun g w' hb ho hd => ?_⟩) ?_
  · have e0 := he 2 _ 7 (.back (i := 14) (e := ⟨10, .chain⟩) rfl (by simp) rfl rfl (.back (i := 10) (e := ⟨6, .chain⟩) rfl (by simp) rfl rfl (.back (i := 6) (e := ⟨2, .chain⟩) rfl (by simp) rfl rfl (.self 2)))) rfl rfl
    have e4 := he 14 _ 19 (.self 14) rfl rfl
    simp only [e0, e4] at h
    exact h
  · have e1 : g 18 = .slice A4 s.inn.length c4 := hd ⟨13, .data⟩ (by simp) rfl (by decide)
    have e2 : Own cMove 4 48 w' W1.heap.size (g 15) s.moves ∧ ∃ gs, OwnOn 23 3 w' W1.heap.size (g 7) s.on gs := hd ⟨10, .chain⟩ (by simp) rfl (by decide)
    have e2' := Lib.hid e2
    clear e2
    obtain ⟨bb, e3, hbb, hblk⟩ : ∃ b, g 16 = .slice (some ⟨b, 0, none⟩) 0 0 ∧ W1.heap.size ≤ b ∧ Blk w' b 3 [] := hd ⟨11, .data⟩ (by simp) rfl (by decide)
    have hAt := (hI.out w' (hB1.trans (hb.mono hB1.size))).at_
    obtain ⟨u, w2, hr, hb2, h0, h⟩ := run_append_fresh (P := Tryz.prog) w' 23 23 3 _ 1 8 Tryz.underlying23 infoInt rfl (by decide) (by decide) bb hblk s.inn A4 c4 w'.heap.size (fun _ => rfl) hAt (by rw [hil'.out]; omega)
    unfold OpRel
    simp only [execOp, resolve, invoke, builtin, evL_tmp, e1, e3, Sem.run_bind, Sem.run_pure, Result.andThen_ok, List.map_toArray, List.map_cons, List.map_nil, hr]
    replace h := h (by rw [hil'.out]; omega)
    have hfin : NumsI w2 W1.heap.size s.on s.inn (g 7) u := e2'.out.2.elim fun gs h8 => NumsI.of h8 hb.size hb2 h
    exact ⟨by simpa [updO, upd] using hfin, hb2⟩
  refine OpsOK.cons (OpOK.one (d := 20) (p := (fun v w' => ∃ b, v = .slice (some ⟨b, 0, none⟩) 0 0 ∧ W1.heap.size ≤ b ∧ Blk w' b 3 [])) rfl rfl (fun v w1 w2 h hb => h.elim fun b h => ⟨b, h.1, h.2.1, h.2.2.below hb h.2.2.lt⟩) (fun g w' hb ho hd => ?_)) ?_
  · unfold OpRel
    go_simp
    exact ⟨⟨hb.size, Blk.new _ _ _⟩, (Below.refl _ _).alloc (Nat.le_refl _) _⟩
  refine OpsOK.cons (OpOK.val rfl rfl (fun g w' hb ho hd => ?_)) ?_
  · have e1 := ho 1 rfl
    go_simp
  refine OpsOK.cons (OpOK.val rfl rfl (fun g w' hb ho hd => ?_)) ?_
  · have e1 : g 21 = .pointer (some ⟨w.heap.size, 5, none⟩) := hd ⟨16, .data⟩ (by simp) rfl (by decide)
    obtain ⟨_, x0, x1, x2, x3, x4, x5, x6, _⟩ := hK.out w' (hb1.trans (hb.mono hb1.size))
    go_simp
  refine OpsOK.cons (⟨fun g w1 w2 h hb => h.below hb, fun g g' w1 he h => ?_, fun g w' hb ho hd => ?_⟩) ?_
  · have e0 := he 2 _ 7 (.back (i := 18) (e := ⟨14, .chain⟩) rfl (by simp) rfl rfl (.back (i := 14) (e := ⟨10, .chain⟩) rfl (by simp) rfl rfl (.back (i := 10) (e := ⟨6, .chain⟩) rfl (by simp) rfl rfl (.back (i := 6) (e := ⟨2, .chain⟩) rfl (by simp) rfl rfl (.self 2))))) rfl rfl
    have e4 := he 14 _ 19 (.back (i := 18) (e := ⟨14, .chain⟩) rfl (by simp) rfl rfl (.self 14)) rfl rfl
    have e5 := he 18 _ 23 (.self 18) rfl rfl
    simp only [e0, e4, e5] at h
    exact h
  · have e1 : g 22 = .slice A5 s.out.length c5 := hd ⟨17, .data⟩ (by simp) rfl (by decide)
    have e2 : NumsI w' W1.heap.size s.on s.inn (g 7) (g 19) := hd ⟨14, .chain⟩ (by simp) rfl (by decide)
    have e2' := Lib.hid e2
    clear e2
    obtain ⟨bb, e3, hbb, hblk⟩ : ∃ b, g 20 = .slice (some ⟨b, 0, none⟩) 0 0 ∧ W1.heap.size ≤ b ∧ Blk w' b 3 [] := hd ⟨15, .data⟩ (by simp) rfl (by decide)
    have hAt := (hU.out w' (hB1.trans (hb.mono hB1.size))).at_
    obtain ⟨u, w2, hr, hb2, h0, h⟩ := run_append_fresh (P := Tryz.prog) w' 23 23 3 _ 1 8 Tryz.underlying23 infoInt rfl (by decide) (by decide) bb hblk s.out A5 c5 w'.heap.size (fun _ => rfl) hAt (by rw [hul'.out]; omega)
    unfold OpRel
    simp only [execOp, resolve, invoke, builtin, evL_tmp, e1, e3, Sem.run_bind, Sem.run_pure, Result.andThen_ok, List.map_toArray, List.map_cons, List.map_nil, hr]
    replace h := h (by rw [hul'.out]; omega)
    have hfin : NumsU w2 W1.heap.size s.on s.inn s.out (g 7) (g 19) u := NumsU.of e2'.out hb.size hb2 h
    exact ⟨by simpa [updO, upd] using hfin, hb2⟩
  refine OpsOK.cons (OpOK.one (d := 24) (p := (fun v w' => ∃ b, v = .slice (some ⟨b, 0, none⟩) 0 0 ∧ W1.heap.size ≤ b ∧ Blk w' b 3 [])) rfl rfl (fun v w1 w2 h hb => h.elim fun b h => ⟨b, h.1, h.2.1, h.2.2.below hb h.2.2.lt⟩) (fun g w' hb ho hd => ?_)) ?_
  · unfold OpRel
    go_simp
    exact ⟨⟨hb.size, Blk.new _ _ _⟩, (Below.refl _ _).alloc (Nat.le_refl _) _⟩
  refine OpsOK.cons (OpOK.val rfl rfl (fun g w' hb ho hd => ?_)) ?_
  · have e1 := ho 1 rfl
    go_simp
  refine OpsOK.cons (OpOK.val rfl rfl (fun g w' hb ho hd => ?_)) ?_
  · have e1 : g 25 = .pointer (some ⟨w.heap.size, 6, none⟩) := hd ⟨20, .data⟩ (by simp) rfl (by decide)
    obtain ⟨_, x0, x1, x2, x3, x4, x5, x6, _⟩ := hK.out w' (hb1.trans (hb.mono hb1.size))
    go_simp
  refine OpsOK.cons (⟨fun g w1 w2 h hb => h.below hb, fun g g' w1 he h => ?_, fun g w' hb ho hd => ?_⟩) ?_
  · have e0 := he 2 _ 7 (.back (i := 22) (e := ⟨18, .chain⟩) rfl (by simp) rfl rfl (.back (i := 18) (e := ⟨14, .chain⟩) rfl (by simp) rfl rfl (.back (i := 14) (e := ⟨10, .chain⟩) rfl (by simp) rfl rfl (.back (i := 10) (e := ⟨6, .chain⟩) rfl (by simp) rfl rfl (.back (i := 6) (e := ⟨2, .chain⟩) rfl (by simp) rfl rfl (.self 2)))))) rfl rfl
    have e4 := he 14 _ 19 (.back (i := 22) (e := ⟨18, .chain⟩) rfl (by simp) rfl rfl (.back (i := 18) (e := ⟨14, .chain⟩) rfl (by simp) rfl rfl (.self 14))) rfl rfl
    have e5 := he 18 _ 23 (.back (i := 22) (e := ⟨18, .chain⟩) rfl (by simp) rfl rfl (.self 18)) rfl rfl
    have e6 := he 22 _ 27 (.self 22) rfl rfl
    simp only [e0, e4, e5, e6] at h
    exact h
  · have e1 : g 26 = .slice A6 s.fixed.length c6 := hd ⟨21, .data⟩ (by simp) rfl (by decide)
    have e2 : NumsU w' W1.heap.size s.on s.inn s.out (g 7) (g 19) (g 23) := hd ⟨18, .chain⟩ (by simp) rfl (by decide)
    have e2' := Lib.hid e2
    clear e2
    obtain ⟨bb, e3, hbb, hblk⟩ : ∃ b, g 24 = .slice (some ⟨b, 0, none⟩) 0 0 ∧ W1.heap.size ≤ b ∧ Blk w' b 3 [] := hd ⟨19, .data⟩ (by simp) rfl (by decide)
    have hAt := (hX.out w' (hB1.trans (hb.mono hB1.size))).at_
    obtain ⟨u, w2, hr, hb2, h0, h⟩ := run_append_fresh (P := Tryz.prog) w' 23 23 3 _ 1 8 Tryz.underlying23 infoInt rfl (by decide) (by decide) bb hblk s.fixed A6 c6 w'.heap.size (fun _ => rfl) hAt (by rw [hxl'.out]; omega)
    unfold OpRel
    simp only [execOp, resolve, invoke, builtin, evL_tmp, e1, e3, Sem.run_bind, Sem.run_pure, Result.andThen_ok, List.map_toArray, List.map_cons, List.map_nil, hr]
    replace h := h (by rw [hxl'.out]; omega)
    have hfin : NumsX w2 W1.heap.size s.on s.inn s.out s.fixed (g 7) (g 19) (g 23) u := NumsX.of e2'.out hb.size hb2 h
    exact ⟨by simpa [updO, upd] using hfin, hb2⟩
  refine OpsOK.cons (⟨fun g w1 w2 h hb => h, fun g g' w1 he h => ?_, fun g w' hb ho hd => ?_⟩) ?_
  · have es := he 23 _ 28 (.self 23) rfl rfl
    have e0 := he 2 _ 7 (.back (i := 23) (e := ⟨2, .data⟩) rfl (by simp) rfl rfl (.self 2)) rfl rfl
    have e2 := he 6 _ 11 (.back (i := 23) (e := ⟨6, .data⟩) rfl (by simp) rfl rfl (.self 6)) rfl rfl
    have e3 := he 10 _ 15 (.back (i := 23) (e := ⟨10, .data⟩) rfl (by simp) rfl rfl (.self 10)) rfl rfl
    have e4 := he 14 _ 19 (.back (i := 23) (e := ⟨14, .data⟩) rfl (by simp) rfl rfl (.self 14)) rfl rfl
    have e5 := he 18 _ 23 (.back (i := 23) (e := ⟨18, .data⟩) rfl (by simp) rfl rfl (.self 18)) rfl rfl
    have e6 := he 22 _ 27 (.back (i := 23) (e := ⟨22, .data⟩) rfl (by simp) rfl rfl (.self 22)) rfl rfl
    change g' 28 = .agg #[g' 7, .slice none 0 0, g' 11, g' 15, g' 19, g' 23, g' 27]
    rw [← es, ← e0, ← e2, ← e3, ← e4, ← e5, ← e6]
    exact h
  · obtain ⟨B0, d0, s0⟩ : ∃ A c, g 7 = .slice A s.on.length c := (hd ⟨2, .data⟩ (by simp) rfl (by decide) : ∃ gs, OwnOn 23 3 w' W1.heap.size (g 7) s.on gs).elim fun gs h => h.isSlice
    obtain ⟨B2, d2, s2⟩ := (hd ⟨6, .data⟩ (by simp) rfl (by decide) : Own cHold 4 46 w' W1.heap.size (g 11) s.holds ∧ ∃ gs, OwnOn 23 3 w' W1.heap.size (g 7) s.on gs).1.isSlice
    obtain ⟨B3, d3, s3⟩ := (hd ⟨10, .data⟩ (by simp) rfl (by decide) : Own cMove 4 48 w' W1.heap.size (g 15) s.moves ∧ ∃ gs, OwnOn 23 3 w' W1.heap.size (g 7) s.on gs).1.isSlice
    obtain ⟨B4, d4, s4⟩ := (hd ⟨14, .data⟩ (by simp) rfl (by decide) : NumsI w' W1.heap.size s.on s.inn (g 7) (g 19)).isSlice
    obtain ⟨B5, d5, s5⟩ := (hd ⟨18, .data⟩ (by simp) rfl (by decide) : NumsU w' W1.heap.size s.on s.inn s.out (g 7) (g 19) (g 23)).isSlice
    obtain ⟨B6, d6, s6⟩ := (hd ⟨22, .data⟩ (by simp) rfl (by decide) : NumsX w' W1.heap.size s.on s.inn s.out s.fixed (g 7) (g 19) (g 23) (g 27)).isSlice
    unfold OpRel
    go_simp
    exact ⟨by simp [updO, upd, s0, s2, s3, s4, s5, s6], Below.refl _ _⟩
  refine OpsOK.cons (OpOK.one (d := 3) (p := (fun v w' => ∃ b, v = .pointer (some ⟨b, 0, none⟩) ∧ W1.heap.size ≤ b ∧ BoxAt w' b ⟨nilV, nilV, nilV, nilV, nilV, nilV, nilV, [], []⟩)) rfl rfl (fun v w1 w2 h hb => h.elim fun b h => ⟨b, h.1, h.2.1, h.2.2.below hb h.2.2.lt⟩) (fun g w' hb ho hd => ?_)) ?_
  · unfold OpRel
    go_simp
    exact ⟨⟨hb.size, Blk.new _ _ _⟩, (Below.refl _ _).alloc (Nat.le_refl _) _⟩
  exact OpsOK.nil
  obtain ⟨r0, r1, r2, ⟨bs3, r3, _, _⟩, r4, r5, r6, ⟨bs7, r7, _, _⟩, r8, r9, r10, ⟨bs11, r11, _, _⟩, r12, r13, r14, ⟨bs15, r15, _, _⟩, r16, r17, r18, ⟨bs19, r19, _, _⟩, r20, r21, r22, r23, ⟨b, r24, hbb, hbox⟩, _⟩ := hR
  simp only [fillA, fillT, List.take_succ_cons, List.take_zero, List.drop_succ_cons, List.drop_zero, List.filterMap_cons, List.filterMap_nil, List.foldl_cons, List.foldl_nil, List.setIfInBounds_toArray, List.set_cons_zero, List.set_cons_succ, r0, r1, r3, r4, r5, r7, r8, r9, r11, r12, r13, r15, r16, r17, r19, r20, r21, r23, r24]
  obtain ⟨B0, d0, s0⟩ := r22.isSlice0
  obtain ⟨B2, d2, s2⟩ := r6.1.isSlice
  obtain ⟨B3, d3, s3⟩ := r10.1.isSlice
  obtain ⟨B4, d4, s4⟩ := r14.isSlice
  obtain ⟨B5, d5, s5⟩ := r18.isSlice
  obtain ⟨B6, d6, s6⟩ := r22.isSlice
  obtain ⟨vs, hown⟩ := r22.made r6.1 r10.1
  simp only [s0, s2, s3, s4, s5, s6] at hown ⊢
  have hO2 := Lib.hid hown
  clear hown s0 s2 s3 s4 s5 s6
  clear r0 r1 r2 r3 r4 r5 r6 r7 r8 r9 r10 r11 r12 r13 r14 r15 r16 r17 r18 r19 r20 r21 r22 r23 r24
  refine wpList_store_state rfl (.tmp 3) (.tmp 28) rfl rfl b _ ⟨.slice B0 s.on.length d0, nilV, .slice B2 s.holds.length d2, .slice B3 s.moves.length d3, .slice B4 s.inn.length d4, .slice B5 s.out.length d5, .slice B6 s.fixed.length d6, vs, []⟩ hbox rfl rfl rfl (fun w3 hbox3 hg3 => ?_)
  have hbw : Below W1.heap.size W1 w3 := hb2.grown hg3 hb2.size (fun k hk => by injection hk with hk; omega)
  have hO3 : OwnSt w3 W1.heap.size ⟨.slice B0 s.on.length d0, nilV, .slice B2 s.holds.length d2, .slice B3 s.moves.length d3, .slice B4 s.inn.length d4, .slice B5 s.out.length d5, .slice B6 s.fixed.length d6, vs, []⟩ (upTo s 0) :=
    hO2.out.keptBy hg3 hbox.blk (by decide) (by decide) (by decide) (by decide) (by decide) (by decide)
  have hO3' := Lib.hid hO3
  have hbox3' := Lib.hid hbox3
  clear hO3 hO2 hbox hbox3 hg3 hb2
  have hbwK := hb1.trans (hbw.mono hb1.size)
  obtain ⟨_, x0, x1, x2, x3, x4, x5, x6, _⟩ := hK.out w3 hbwK
  refine wpList_nil ?_
  go_wp2_with fail
  go_loopw [4] (fun i wr => ∃ (k : Nat) (V : SV), k ≤ s.orders.length ∧ i = .int .i64 k ∧ OwnSt wr W1.heap.size V (upTo s k) ∧ BoxAt wr b V ∧ Below W1.heap.size W1 wr) (fun i _ => s.orders.length - (intOf i).toNat)
  case atStart => exact ⟨0, _, Nat.zero_le _, rfl, hO3'.out, hbox3'.out, hbw⟩
  case round =>
    clear x0 x1 x2 x3 x4 x5 x6 hbw hbwK hO3' hbox3'
    obtain ⟨k, V, hk, rfl, hOw, hbx, hbw⟩ := hrel
    have hOw' := Lib.hid hOw
    have hbx' := Lib.hid hbx
    clear hOw hbx
    have hB := hB1.trans (hbw.mono hB1.size)
    have hbwK := hb1.trans (hbw.mono hb1.size)
    obtain ⟨_, x0, x1, x2, x3, x4, x5, x6, _⟩ := hK.out wr hbwK
    by_cases hlt : k < s.orders.length
    · obtain ⟨A', c', hok1, hAb1, e0, e1, hsl⟩ := (hO.out W1 hB1).order hlt
      obtain ⟨l1, l3⟩ := hsH.out.lines3 hlt
      change 1 ≤ (orderAt s.orders k).lines.length at l1
      change (orderAt s.orders k).lines.length ≤ 3 at l3
      have hkl : (k : Int) < (s.orders.length : Int) := by omega
      have hk0 : (0 : Int) ≤ (k : Int) := by omega
      have e0' := Lib.hid e0
      have e1' := Lib.hid e1
      have hsl' := Lib.hid hsl
      clear e0 e1 hsl
      obtain ⟨Ao, co, hVo⟩ := hOw'.out.orders.isSlice
      have hVo' := Lib.hid hVo
      have hrow := Lib.hid (fun r (hr : V.orders.ownBlock = some r) => hOw'.out.orders.size r hr)
      have hTB := Lib.hid (fun w' (hT : wr.grownBy w' V.orders.ownBlock) => (hbw.grown hT hbw.size (fun r hr => (hrow.out r hr).1) : Below W1.heap.size W1 w'))
      have hbrow := Lib.hid (show some b ≠ V.orders.ownBlock from fun he => by
        rcases hOw'.out.orders.notBox hbx'.out.blk (by decide) with h | h
        · rw [h] at he; cases he
        · exact h he.symm)
      have hnew := Lib.hid (fun g (hg : wr.heap.size ≤ g) => (show some g ≠ V.orders.ownBlock from fun he => by have := (hrow.out g he.symm).2; omega))
      have hlo : (ords (upTo s k).orders V.lines).length ≤ 1000000 := by
        rw [ords_length hOw'.out.llen]
        show (s.orders.take k).length ≤ 1000000
        rw [List.length_take]
        omega
      go_wp2_with fail
      clear hVo
      refine wp_region_opsB 20 (fun w' => wr.grownBy w' V.orders.ownBlock) (fun w' => Below wr.heap.size wr w') (fun w1 w2 => w1.grownBy w2 V.orders.ownBlock) 18 [
        fun g _ => g 36 = .pointer (some ⟨b, 1, none⟩), fun g _ => g 37 = .slice Ao (ords (upTo s k).orders V.lines).length co, fun g _ => g 38 = .pointer (some ⟨w.heap.size, 1, none⟩), fun g _ => g 39 = .slice A1 s.orders.length c1,
        fun g _ => g 40 = .int .i64 k, fun g _ => g 41 = .pointer (some ⟨ablk A1, aoff A1 + k * 2, none⟩), fun g _ => g 42 = .pointer (some ⟨ablk A1, aoff A1 + k * 2, none⟩), fun g _ => g 43 = .int .i64 (orderAt s.orders k).kind,
        fun g w' => (fun v w' => ∃ b, v = .slice (some ⟨b, 0, none⟩) 0 0 ∧ wr.heap.size ≤ b ∧ Blk w' b 44 []) (g 44) w',
        fun g _ => g 45 = .pointer (some ⟨w.heap.size, 1, none⟩), fun g _ => g 46 = .slice A1 s.orders.length c1, fun g _ => g 47 = .int .i64 k, fun g _ => g 48 = .pointer (some ⟨ablk A1, aoff A1 + k * 2, none⟩), fun g _ => g 49 = .pointer (some ⟨ablk A1, aoff A1 + k * 2 + 1, none⟩),
        fun g _ => g 50 = .slice A' (orderAt s.orders k).lines.length c', fun g w' => (fun v w' => Own cLine 4 44 w' wr.heap.size v (orderAt s.orders k).lines) (g 51) w',
        fun g w' => g 52 = .agg #[.int .i64 (orderAt s.orders k).kind, g 51] ∧ Own cLine 4 44 w' wr.heap.size (g 51) (orderAt s.orders k).lines,
        fun g w' => (∃ b, g 53 = .slice (some ⟨b, 0, none⟩) 1 1 ∧ wr.heap.size ≤ b ∧ Blk w' b 42 [.int .i64 (orderAt s.orders k).kind, g 51]) ∧ Own cLine 4 44 w' wr.heap.size (g 51) (orderAt s.orders k).lines,
        fun g w' => Own cOrd 2 42 w' W1.heap.size (g 54) ((ords (upTo s k).orders V.lines) ++ [((orderAt s.orders k).kind, g 51)]) ∧ Own cLine 4 44 w' wr.heap.size (g 51) (orderAt s.orders k).lines,
        fun g _ => g 55 = .pointer (some ⟨b, 1, none⟩)] (by kernel_rfl) (by kernel_rfl) rfl (by kernel_rfl)
        (fun w1 w2 h hb => grown_trans h (grown_of_below hb)) (fun w1 w2 h h' => grown_trans h h') (fun w1 w2 h hb => h.trans (hb.mono h.size)) (grown_of_below (Below.refl _ _).drew) (Below.refl _ _).drew ?_ (fun f w2 hT hR => ?_)
      · simp only [List.take_succ_cons, List.take_zero]
        refine OpsBrk.cons (OpBrk.val rfl rfl (by decide) (fun g w' hT ho hd => ?_)) ?_
        · have e1 := ho 3 rfl
          go_simp
        refine OpsBrk.cons (OpBrk.val rfl rfl (by decide) (fun g w' hT ho hd => ?_)) ?_
        · have e1 : g 36 = .pointer (some ⟨b, 1, none⟩) := hd ⟨0, .data⟩ (by simp) rfl (by decide)
          have y1 := (hbx'.out.grown hT hbrow.out).cells.2.1
          rw [hVo'.out] at y1
          go_simp
        refine OpsBrk.cons (OpBrk.val rfl rfl (by decide) (fun g w' hT ho hd => ?_)) ?_
        · have e1 := ho 1 rfl
          go_simp
        refine OpsBrk.cons (OpBrk.val rfl rfl (by decide) (fun g w' hT ho hd => ?_)) ?_
        · have e1 : g 38 = .pointer (some ⟨w.heap.size, 1, none⟩) := hd ⟨2, .data⟩ (by simp) rfl (by decide)
          obtain ⟨_, x0, x1, x2, x3, x4, x5, x6, _⟩ := hK.out w' (hb1.trans ((hTB.out w' hT).mono hb1.size))
          go_simp
        refine OpsBrk.cons (OpBrk.val rfl rfl (by decide) (fun g w' hT ho hd => ?_)) ?_
        · have e1 := ho 4 rfl
          go_simp
        refine OpsBrk.cons (OpBrk.val rfl rfl (by decide) (fun g w' hT ho hd => ?_)) ?_
        · have e1 : g 39 = .slice A1 s.orders.length c1 := hd ⟨3, .data⟩ (by simp) rfl (by decide)
          have e2 : g 40 = .int .i64 k := hd ⟨4, .data⟩ (by simp) rfl (by decide)
          go_simp
        refine OpsBrk.cons (OpBrk.val rfl rfl (by decide) (fun g w' hT ho hd => ?_)) ?_
        · have e1 : g 41 = .pointer (some ⟨ablk A1, aoff A1 + k * 2, none⟩) := hd ⟨5, .data⟩ (by simp) rfl (by decide)
          go_simp
        refine OpsBrk.cons (OpBrk.val rfl rfl (by decide) (fun g w' hT ho hd => ?_)) ?_
        · have e1 : g 42 = .pointer (some ⟨ablk A1, aoff A1 + k * 2, none⟩) := hd ⟨6, .data⟩ (by simp) rfl (by decide)
          have y1 := ((hTB.out w' hT).cell (p := ⟨ablk A1, aoff A1 + k * 2, none⟩) hAb1).trans e0'.out
          go_simp
        refine OpsBrk.cons (OpBrk.one (d := 44) (p := fun v w' => ∃ b, v = .slice (some ⟨b, 0, none⟩) 0 0 ∧ wr.heap.size ≤ b ∧ Blk w' b 44 []) rfl rfl (by decide) (fun v w1 w2 h hb => h.elim fun b h => ⟨b, h.1, h.2.1, h.2.2.below hb h.2.2.lt⟩) (fun v w1 w2 h hb => h.elim fun b h => ⟨b, h.1, h.2.1, h.2.2.grown hb (hnew.out b h.2.1)⟩) (fun g w' hT ho hd => ?_)) ?_
        · unfold OpRel
          go_simp
          exact ⟨⟨hT.size, Blk.new _ _ _⟩, (Below.refl _ _).alloc (Nat.le_refl _) _⟩
        refine OpsBrk.cons (OpBrk.val rfl rfl (by decide) (fun g w' hT ho hd => ?_)) ?_
        · have e1 := ho 1 rfl
          go_simp
        refine OpsBrk.cons (OpBrk.val rfl rfl (by decide) (fun g w' hT ho hd => ?_)) ?_
        · have e1 : g 45 = .pointer (some ⟨w.heap.size, 1, none⟩) := hd ⟨9, .data⟩ (by simp) rfl (by decide)
          obtain ⟨_, x0, x1, x2, x3, x4, x5, x6, _⟩ := hK.out w' (hb1.trans ((hTB.out w' hT).mono hb1.size))
          go_simp
        refine OpsBrk.cons (OpBrk.val rfl rfl (by decide) (fun g w' hT ho hd => ?_)) ?_
        · have e1 := ho 4 rfl
          go_simp
        refine OpsBrk.cons (OpBrk.val rfl rfl (by decide) (fun g w' hT ho hd => ?_)) ?_
        · have e1 : g 46 = .slice A1 s.orders.length c1 := hd ⟨10, .data⟩ (by simp) rfl (by decide)
          have e2 : g 47 = .int .i64 k := hd ⟨11, .data⟩ (by simp) rfl (by decide)
          go_simp
        refine OpsBrk.cons (OpBrk.val rfl rfl (by decide) (fun g w' hT ho hd => ?_)) ?_
        · have e1 : g 48 = .pointer (some ⟨ablk A1, aoff A1 + k * 2, none⟩) := hd ⟨12, .data⟩ (by simp) rfl (by decide)
          go_simp
        refine OpsBrk.cons (OpBrk.val rfl rfl (by decide) (fun g w' hT ho hd => ?_)) ?_
        · have e1 : g 49 = .pointer (some ⟨ablk A1, aoff A1 + k * 2 + 1, none⟩) := hd ⟨13, .data⟩ (by simp) rfl (by decide)
          have y1 := ((hTB.out w' hT).cell (p := ⟨ablk A1, aoff A1 + k * 2 + 1, none⟩) hAb1).trans e1'.out
          go_simp
        refine OpsBrk.cons (OpBrk.one (d := 51) (p := fun v w' => Own cLine 4 44 w' wr.heap.size v (orderAt s.orders k).lines) rfl rfl (by decide) (fun v w1 w2 h hb => Own.below h hb) (fun v w1 w2 h hb => Own.kept h hb (own_or h hnew.out)) (fun g w' hT ho hd => ?_)) ?_
        · have e1 : g 50 = .slice A' (orderAt s.orders k).lines.length c' := hd ⟨14, .data⟩ (by simp) rfl (by decide)
          obtain ⟨bb, e3, hbb2, hblk⟩ : ∃ b, g 44 = .slice (some ⟨b, 0, none⟩) 0 0 ∧ wr.heap.size ≤ b ∧ Blk w' b 44 [] := hd ⟨8, .data⟩ (by simp) rfl (by decide)
          have hBw := hTB.out w' hT
          have hAt := (hsl'.out.up hBw hBw.size).at_
          obtain ⟨u, w3, hr, hb3, h0, h⟩ := run_append_fresh (P := Tryz.prog) w' 32 32 44 _ 4 32 Tryz.underlying32 infoLine rfl (by decide) (by decide) bb hblk (orderAt s.orders k).lines A' c' w'.heap.size (fun _ => rfl) hAt (by omega)
          unfold OpRel
          simp only [execOp, resolve, invoke, builtin, evL_tmp, e1, e3, Sem.run_bind, Sem.run_pure, Result.andThen_ok, List.map_toArray, List.map_cons, List.map_nil, hr]
          exact ⟨(h (by omega)).from_ hT.size, hb3⟩
        refine OpsBrk.cons ⟨fun g w1 w2 h hb => ⟨h.1, h.2.below hb⟩, fun _ g w1 w2 h hb => ⟨h.1, h.2.kept hb (own_or h.2 hnew.out)⟩, fun g g' w1 he h => ?_, fun g w' hT _ ho hd => ?_⟩ ?_
        · have e52 := he 16 _ 52 (.self 16) rfl rfl
          have e51 := he 15 _ 51 (.back (i := 16) (e := ⟨15, .data⟩) rfl (by simp) rfl rfl (.self 15)) rfl rfl
          simp only [e51, e52] at h
          exact h
        · have e1 : g 43 = .int .i64 (orderAt s.orders k).kind := hd ⟨7, .data⟩ (by simp) rfl (by decide)
          have e2 : Own cLine 4 44 w' wr.heap.size (g 51) (orderAt s.orders k).lines := hd ⟨15, .data⟩ (by simp) rfl (by decide)
          obtain ⟨Au, cu, s51⟩ := e2.isSlice
          have e2' := Lib.hid e2
          clear e2
          unfold OpRel
          go_simp
          refine ⟨⟨by simp [updO, upd, s51], ?_⟩, Below.refl _ _⟩
          have := e2'.out
          simpa [updO, upd, s51] using this
        refine OpsBrk.cons ⟨fun g w1 w2 h hb => ⟨h.1.elim fun b h => ⟨b, h.1, h.2.1, h.2.2.below hb h.2.2.lt⟩, h.2.below hb⟩, fun _ g w1 w2 h hb => ⟨h.1.elim fun b h => ⟨b, h.1, h.2.1, h.2.2.grown hb (hnew.out b h.2.1)⟩, h.2.kept hb (own_or h.2 hnew.out)⟩, fun g g' w1 he h => ?_, fun g w' hT _ ho hd => ?_⟩ ?_
        · have e53 := he 17 _ 53 (.self 17) rfl rfl
          have e51 := he 15 _ 51 (.back (i := 17) (e := ⟨16, .data⟩) rfl (by simp) rfl rfl (.back (i := 16) (e := ⟨15, .data⟩) rfl (by simp) rfl rfl (.self 15))) rfl rfl
          simp only [e51, e53] at h
          exact h
        · have e1 : g 52 = .agg #[.int .i64 (orderAt s.orders k).kind, g 51] ∧ Own cLine 4 44 w' wr.heap.size (g 51) (orderAt s.orders k).lines := hd ⟨16, .data⟩ (by simp) rfl (by decide)
          obtain ⟨e3, e2⟩ := e1
          obtain ⟨Au, cu, s51⟩ := e2.isSlice
          have e2' := Lib.hid e2
          clear e2
          rw [s51] at e3
          unfold OpRel
          go_simp
          refine ⟨⟨⟨w'.heap.size, by simp [updO, upd], hT.size, ?_⟩, ?_⟩, (Below.refl _ _).alloc (Nat.le_refl _) _⟩
          · have := Blk.new w' 42 #[.int .i64 (orderAt s.orders k).kind, .slice Au (orderAt s.orders k).lines.length cu]
            simpa [updO, upd, s51] using this
          · have := e2'.out.alloc (.cells #[.int .i64 (orderAt s.orders k).kind, .slice Au (orderAt s.orders k).lines.length cu] 42)
            simpa [updO, upd, s51] using this
        refine OpsBrk.cons ⟨fun g w1 w2 h hb => ⟨h.1.below hb, h.2.below hb⟩, fun hne => absurd rfl hne, fun g g' w1 he h => ?_, fun g w' hT hJ ho hd => ?_⟩ ?_
        · have e54 := he 18 _ 54 (.self 18) rfl rfl
          have e51 := he 15 _ 51 (.back (i := 18) (e := ⟨15, .chain⟩) rfl (by simp) rfl rfl (.self 15)) rfl rfl
          simp only [e51, e54] at h
          exact h
        · have e1 : g 37 = .slice Ao (ords (upTo s k).orders V.lines).length co := hd ⟨1, .data⟩ (by simp) rfl (by decide)
          obtain ⟨⟨gb, e3, hgb, hblk⟩, e2⟩ : (∃ b, g 53 = .slice (some ⟨b, 0, none⟩) 1 1 ∧ wr.heap.size ≤ b ∧ Blk w' b 42 [.int .i64 (orderAt s.orders k).kind, g 51]) ∧ Own cLine 4 44 w' wr.heap.size (g 51) (orderAt s.orders k).lines := hd ⟨17, .data⟩ (by simp) rfl (by decide)
          have hown := hOw'.out.orders.below (hJ rfl)
          obtain ⟨i, hi, hz, hsize, hbytes⟩ := infoOrder
          have hone := own_one e2
          obtain ⟨v', w3, hr, hown3, hg3, _, _⟩ := run_append_own_at (P := Tryz.prog) w' W1.heap.size 27 27 42 i _ 2 32 Tryz.underlying27 hi hz hsize hbytes rfl (by decide) V.orders _ _ hown ⟨gb, 0, none⟩ 1 1 (cOrd ((orderAt s.orders k).kind, g 51)) rfl
            (fun j u hj => by rw [Addr.add_lit, Nat.zero_add]; exact hblk.cell hj) (oneOrd _ hone) (by unfold maxLen; omega) (by omega) (Nat.le_trans hbw.size hT.size)
          rw [hVo'.out] at hr
          unfold OpRel
          simp only [execOp, resolve, invoke, builtin, evL_tmp, e1, e3, Sem.run_bind, Sem.run_pure, Result.andThen_ok, List.map_toArray, List.map_cons, List.map_nil, hr]
          refine ⟨⟨?_, ?_⟩, .inr ⟨trivial, hg3⟩⟩
          · have h2 : Own cOrd 2 42 w3 W1.heap.size v' ((ords (upTo s k).orders V.lines) ++ [((orderAt s.orders k).kind, g 51)]) := by
              unfold Own
              rw [List.length_append, List.flatMap_append]
              simpa using hown3
            simpa [updO, upd] using h2
          · have h2 := e2.kept hg3 (own_or e2 hnew.out)
            simpa [updO, upd] using h2
        refine OpsBrk.cons (OpBrk.val rfl rfl (by decide) (fun g w' hT ho hd => ?_)) ?_
        · have e1 := ho 3 rfl
          go_simp
        exact OpsBrk.nil
      · obtain ⟨r0, r1, r2, r3, r4, r5, r6, r7, ⟨bb, r8, _, _⟩, r9, r10, r11, r12, r13, r14, r15, ⟨r16, _⟩, ⟨⟨gb, r17, _, _⟩, _⟩, ⟨hv, hu⟩, r19, _⟩ := hR
        simp only [fillA, fillT, List.take_succ_cons, List.take_zero, List.drop_succ_cons, List.drop_zero, List.filterMap_cons, List.filterMap_nil, List.foldl_cons, List.foldl_nil, List.setIfInBounds_toArray, List.set_cons_zero, List.set_cons_succ, r0, r1, r2, r3, r4, r5, r6, r7, r8, r9, r10, r11, r12, r13, r14, r16, r17, r19]
        have hO7 := hOw'.out.pushOrder2 hT (x := orderAt s.orders k) (hu.from_ hbw.size) (fun g hg => (hu.size g hg).1) hv
        have hBx7 := hbx'.out.grown hT hbrow.out
        have hbw7 := hTB.out w2 hT
        obtain ⟨Av, cv, hv7⟩ := hv.isSlice
        obtain ⟨Au, cu, hu7⟩ := hu.isSlice
        simp only [List.length_append, List.length_cons, List.length_nil, Nat.zero_add] at hv7
        simp only [hv7, hu7]
        obtain ⟨vv, hvv⟩ : ∃ x, x = f 54 := ⟨_, rfl⟩
        have hO8 := hO7.box hBx7 1 vv
        have hBx8 := hBx7.setOrders vv
        rw [← upTo_succ hlt] at hO8
        have hbw8 := hbw7.setCell (p := ⟨b, 1, none⟩) hbb vv
        rw [hvv, hv7] at hO8 hBx8 hbw8
        rw [hu7] at hO8
        have hO8' := Lib.hid hO8
        have hBx8' := Lib.hid hBx8
        have q1 := hBx7.cells.2.1
        have qf := hBx7.frozen 1
        clear hO8 hBx8 hO7 hBx7 hv hu hv7 hu7 r0 r1 r2 r3 r4 r5 r6 r7 r8 r9 r10 r11 r12 r13 r14 r15 r16 r17 r19 hvv vv hlo hT hok1 hAb1
        go_wp2_with fail
        go_roundw
        case rel => exact ⟨k + 1, _, by omega, by go_num, hO8'.out, hBx8'.out, hbw8⟩
        case measure => simp [intOf]; omega
    · obtain rfl : k = s.orders.length := by omega
      rw [upTo_all] at hOw'
      have hR1 : Blk wr (w.heap.size + 1) _ _ := hsE.out ▸ hBlk0.out.below hbw hs1
      have hfz := hR1.frozen
      obtain ⟨b0, b1, b2, b3, b4, b5, b6⟩ := hbx'.out.cells
      have hone : V.cells.all (fun u => u.oneCell') = true := by
        have h := hOw'.out
        simp [SV.cells, own_one h.on, own_one h.orders, own_one h.holds, own_one h.moves, own_one h.inn, own_one h.out, own_one h.fixed]
      have hbx1 : BoxAt wr (w.heap.size + 1) ⟨nilV, nilV, nilV, nilV, nilV, nilV, nilV, [], []⟩ := hR1
      clear hfz
      go_wp2_with (refine wpList_store_state rfl (.tmp 2) (.tmp 56) rfl rfl (w.heap.size + 1) _ V hbx1 rfl rfl hone (fun w9 hbox9 hg9 => ?_))
      have hO9 := hOw'.out.keptBy hg9 hbx1.blk (by decide) (by decide) (by decide) (by decide) (by decide) (by decide)
      obtain ⟨p0, p1, p2, p3, p4, p5, p6⟩ := hbox9.cells
      have hbz : w.heap.size ≤ w.heap.size + 1 := by omega
      have hfin : Below w.heap.size w w9 := hB.grown hg9 hB.size (fun k hk => by injection hk with hk; omega)
      have hsB : w.heap.size ≤ W1.heap.size := hB1.size
      clear b0 b1 b2 b3 b4 b5 b6
      go_wp2_with fail
      exact bodyPost_ret (v := V.val) (by simp [results, Tryz.results16, go_sem, SV.val, p0, p1, p2, p3, p4, p5, p6]) rfl ⟨_, rfl, ⟨V, rfl, hO9.from_ hsB⟩, hfin⟩
end Wh
