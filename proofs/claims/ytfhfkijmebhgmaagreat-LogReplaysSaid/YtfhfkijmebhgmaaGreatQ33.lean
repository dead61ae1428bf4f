/- Texts of the claim, joined: CountD. -/
import Derived.BigRegion
import Derived.Test.YtfhfkijmebhgmaaGreatQ32
namespace Wh
open Go Go.RowKit Go.Shelf Go.Proofs Go.Maps
attribute [local go_sem] run_indexAt_letter evL_tmp evL_const evL_func
attribute [local go_sem] Oper.semAt_some

set_option maxHeartbeats 2000000 in
theorem hdZero (W : World) (x : Hold) : Calls Tryz.prog 119 (#[vHold x] ++ #[]) W fun e W' => e = .returned (.bool (x.n == 0)) ∧ Below W.heap.size W W' := by
  have hb0 : Below W.heap.size W (W.alloc (.cells #[.int .i64 (x).order, .int .i64 (x).line, .int .i64 (x).bin, .int .i64 (x).n] 46)) := (Below.refl _ _).alloc (Nat.le_refl _) _
  change Calls Tryz.prog 119 #[vHold x] W _
  unfold vHold
  go_enter Tryz.func119, Tryz.ntmps119
  go_wp2_with fail
  go_ret
  exact ⟨rfl, hb0⟩
theorem entersHd : Enters Tryz.prog 119 := enters_of Tryz.func119 (by kernel_rfl) rfl
/-- A number stored, in a round. -/
theorem wpListIn_store_int {l₀ n0 : Nat} {ops : Array Oper} {rest : List Oper} {o : Oper} {a : Act} {w : World} {Q : Exit → Act → World → Prop} (hgd : o.guard = none) (x y : Operand) (ho : o.op = .store 3 x y) (hn : o.dst = none) (b off : Nat) (u : Value) (q : Int)
    (hx : a.eval x = .pointer (some ⟨b, off, none⟩)) (hy : a.eval y = .int .i64 q) (hc : w.cell? ⟨b, off, none⟩ = some u) (hf : w.frozen? ⟨b, off, none⟩ = false)
    (h : ∀ w', w.setCell ⟨b, off, none⟩ (.int .i64 q) = w' → wpListIn (Fence.wide.inRound l₀) n0 Tryz.prog ops Q rest a w') : wpListIn (Fence.wide.inRound l₀) n0 Tryz.prog ops Q (o :: rest) a w :=
  wpListIn_plain hgd fun K hK => by
    have h3 := h _ rfl
    clear h
    unfold Oper.wpIn
    refine ⟨fun _ _ => trivial, ?_⟩
    rw [Oper.semAt_plain _ _ _ (fun c => by rw [ho]; intro e; cases e)]
    simp only [execOp, ho, hx, hy]
    go_simp
    rw [hn] at *
    exact hK _ _ h3

def HoldsPost (base b mb : Nat) (V : SV) (s : State) (bn g : Nat) (v : Int) (w w' : World) : Prop := ∃ (V' : SV) (ov : Int) (D : DataW Unit), V' = { V with holds := V'.holds } ∧
  Bx w' base b 95 (cutR bn g ov (.map (some mb))) V' (hdS s bn ((hdC s bn g).rest s.holds v)) ∧ Step (ksH b mb V) w w' ∧ CutMap s bn g ((hdC s bn g).rest s.holds v) 0 D ∧ w'.ownsMap Tryz.prog 3 (plainElem Tryz.prog 3) mb s.holds.length D
set_option maxHeartbeats 8000000 in
set_option maxRecDepth 100000 in
theorem ctHolds (w : World) {base b mb : Nat} {V : SV} {s : State} {bn g : Nat} {v : Int} (hB : Bx w base b 95 (cutR bn g v (.map (some mb))) V s) (hb : base ≤ b) (hmb : mb < w.heap.size) (hmbb : base ≤ mb) (hmap : w.ownsMap Tryz.prog 3 (plainElem (H := Unit) Tryz.prog 3) mb 0 (.map []))
    (hok : holdsOk s.holds = true) (hv : -100000 ≤ v ∧ v ≤ 100000) (hin : ∀ i (hi : i < s.holds.length), ∃ o k : Nat, s.holds[i].order = o ∧ s.holds[i].line = k ∧ o < s.orders.length ∧ k < (s.order o).lines.length)
    (hbk : ∀ o k : Nat, o < s.orders.length → k < (s.order o).lines.length → 0 ≤ (s.line o k).back ∧ (s.line o k).back ≤ 200) :
    Calls Tryz.prog 64 #[.pointer (some ⟨b, 0, none⟩)] w fun e w' => e = .returned (.tuple #[]) ∧ HoldsPost base b mb V s bn g v w w' := by
  have hB' := Lib.hid hB
  have hB0 := hB
  obtain ⟨k0, k1, k2, k3, k4, k5, k6, k7, k8⟩ := V
  obtain ⟨Ah, ch, hvh⟩ := hB.own.holds.isSlice
  obtain rfl : k2 = .slice Ah s.holds.length ch := hvh
  obtain ⟨c0, c1, c2, c3, c4, c5, c6⟩ := hB.cells
  simp only at c0 c1 c2 c3 c4 c5 c6
  have hbl := hB.lt
  have h72 := ok_len72 hok
  clear hB hB0
  refine (callsIn_wide (n := 9)).1 ?_
  refine callsIn_of_wp_marks Tryz.func64 rfl trivial ?_ rfl
  simp only [Tryz.ntmps64, List.size_toArray, List.length_cons, List.length_nil, Nat.reduceAdd, Nat.reduceSub, Array.replicate_succ, Array.replicate_zero, List.push_toArray, List.append_toArray, List.nil_append, List.cons_append]
  refine wpIn_wide.2 ?_
  go_wp2_with fail
  refine ((callsIn_wide (n := 8)).1 (backHold_in 8 _ _ _ _)).mono ?_
  rintro e W1 ⟨rfl, rfl⟩
  go_wp2_with fail
  clear c0 c1 c2 c3 c4 c5 c6
  obtain ⟨V, hV⟩ : ∃ V : SV, V = ⟨k0, k1, .slice Ah s.holds.length ch, k3, k4, k5, k6, k7, k8⟩ := ⟨_, rfl⟩
  obtain ⟨L, hL⟩ : ∃ L : List (Nat × Obj), L = [(w.heap.size, Obj.cells #[.pointer (some ⟨b, 0, none⟩)] 91 (0, 0)), (w.heap.size + 1, Obj.cells #[.slice Ah s.holds.length ch] 28 (0, 0))] := ⟨_, rfl⟩
  have hba : Below w.heap.size w ((w.alloc (.cells #[.pointer (some ⟨b, 0, none⟩)] 91)).alloc (.cells #[.slice Ah s.holds.length ch] 28)) := ((Below.refl _ _).alloc (Nat.le_refl _) _).alloc (by simp) _
  have hH0 : HeldDs L ((w.alloc (.cells #[.pointer (some ⟨b, 0, none⟩)] 91)).alloc (.cells #[.slice Ah s.holds.length ch] 28)) := by
    intro x hx
    rw [hL] at hx
    simp at hx
    rcases hx with rfl | rfl
    · exact (heap_alloc_old (by simp)).trans (heap_alloc_at rfl)
    · exact heap_alloc_at (by simp)
  have hs2 : ((w.alloc (.cells #[.pointer (some ⟨b, 0, none⟩)] 91)).alloc (.cells #[.slice Ah s.holds.length ch] 28)).heap.size = w.heap.size + 1 + 1 := by simp
  have hI0 : CutJ w base b mb V s bn g v s.holds s.holds.length L ((w.alloc (.cells #[.pointer (some ⟨b, 0, none⟩)] 91)).alloc (.cells #[.slice Ah s.holds.length ch] 28)) :=
    ⟨by rw [hdS_self, hV]; exact hB'.out.below hba, hH0, .of_below hba, _, CutMap.start, by rw [Nat.sub_self]; exact hmap.kept (grown_of_below (row := none) hba) (by simp)⟩
  generalize (w.alloc (.cells #[.pointer (some ⟨b, 0, none⟩)] 91)).alloc (.cells #[.slice Ah s.holds.length ch] 28) = w2 at hba hH0 hs2 hI0 ⊢
  have hLlt : ∀ x ∈ L, x.1 < w2.heap.size := hH0.lt
  have hw2 : w.heap.size ≤ w2.heap.size := hba.size
  have hpos : ∀ x ∈ s.holds, 0 ≤ (hdC s bn g).num x := fun x hx => by have := (fine_iff.1 ((holdsOk_iff.1 hok).1 x hx)).2.1; show 0 ≤ x.n; omega
  have hks := Lib.hid (show ∀ j, ksH b mb V j → j < w.heap.size from fun j hj => by
    rcases hj with rfl | h | rfl | ⟨o, ho, h⟩
    · exact hbl
    · rw [hV] at h
      exact (hB'.out.own.holds.size j h).2
    · exact hmb
    · rw [hV] at h ho
      exact ((hB'.out.own.line o (by rw [← hB'.out.own.llen]; exact ho)).size j h).2)
  refine (wpIn_wide (n := 9)).1 ?_
  refine rangeBackHold (s1 := 2) (s2 := 3) 9 (by omega) (w.heap.size + 1) Ah ch s.holds (by omega) rfl
    (fun k W => k ≤ s.holds.length ∧ CutJ w base b mb V s bn g ((hdC s bn g).mid s.holds v (s.holds.length - k)).2 ((hdC s bn g).mid s.holds v (s.holds.length - k)).1 (s.holds.length - k) L W)
    (fun k X Y row hs hg hr => ⟨hs.1, hs.2.own hLlt hw2 hmb hg hr⟩) ⟨Nat.zero_le _, by rw [Nat.sub_zero, Cutter.mid_top]; exact hI0⟩ ?hR ?hsz ?hassign ?hbody ?hdone
  case hR =>
    intro k W ⟨hk, hI⟩
    refine ⟨Boxed.cell (show Boxed W (w.heap.size + 1) 28 (.slice Ah s.holds.length ch) from hI.held (w.heap.size + 1, Obj.cells #[.slice Ah s.holds.length ch] 28 (0, 0)) (by rw [hL]; simp)), fun i hi => ?_⟩
    have hlen := Cutter.mid_len (C := hdC s bn g) s.holds v (s.holds.length - k)
    obtain ⟨gm, c', cur, e1, _, _, q0, q1, q2, q3⟩ := hI.bx.own.holdAt (k := i) (by show i < (Cutter.mid _ _ _ _).1.length; rw [hlen]; omega)
    have he : hold ((hdC s bn g).mid s.holds v (s.holds.length - k)).1 i = hold s.holds i := by
      unfold hold
      rw [List.getD_eq_getElem?_getD, Cutter.mid_at v (i := i) (by omega) (by omega), List.getD_eq_getElem?_getD, List.getElem?_eq_getElem (by omega)]
    rw [hV] at e1
    injection e1 with e1
    change W.cell? _ = some (.int .i64 (hold ((hdC s bn g).mid s.holds v (s.holds.length - k)).1 i).order) at q0
    change W.cell? _ = some (.int .i64 (hold ((hdC s bn g).mid s.holds v (s.holds.length - k)).1 i).line) at q1
    change W.cell? _ = some (.int .i64 (hold ((hdC s bn g).mid s.holds v (s.holds.length - k)).1 i).bin) at q2
    change W.cell? _ = some (.int .i64 (hold ((hdC s bn g).mid s.holds v (s.holds.length - k)).1 i).n) at q3
    rw [he] at q0 q1 q2 q3
    exact ⟨gm, e1, q0, q1, q2, q3⟩
  case hsz =>
    intro k W ⟨hk, hI⟩
    have := hI.held.lt (w.heap.size + 1, Obj.cells #[.slice Ah s.holds.length ch] 28 (0, 0)) (by rw [hL]; simp)
    simp only at this
    omega
  case hassign =>
    intro l x W K hK
    simp only [List.setIfInBounds_toArray, List.set_cons_zero, List.set_cons_succ] at hK ⊢
    unfold vHold at hK ⊢
    gi_wp2
    exact hK
  case hbody =>
    intro l k x X W hxk ⟨hk, hI⟩ hbX hX
    simp only [List.setIfInBounds_toArray, List.set_cons_zero, List.set_cons_succ]
    unfold vHold
    have hxl : x < s.holds.length := by omega
    have ek : s.holds.length - k = x + 1 := by omega
    have ek1 : s.holds.length - (k + 1) = x := by omega
    rw [ek] at hI
    rw [ek1]
    have hmx : hold s.holds x = s.holds[x] := by unfold hold; simp [hxl]
    have hfx := (fine_iff.1 ((holdsOk_iff.1 hok).1 _ (List.getElem_mem hxl)))
    have hNx := hfx.2
    have hkx := hfx.1
    unfold keyOk at hkx
    obtain ⟨o, kk, hox, hlx, ho, hkk⟩ := hin x hxl
    have hokk : o ≤ 3 ∧ kk ≤ 2 := by omega
    have hov := Cutter.mid_over hpos v (x + 1)
    have hstep := fun h => Cutter.mid_is (C := hdC s bn g) v hxl h
    have hstay := fun h => Cutter.mid_not (C := hdC s bn g) v hxl h
    have hat := Cutter.mid_at (C := hdC s bn g) v (i := x) (j := x + 1) hxl (by omega)
    have hml := Cutter.mid_len (C := hdC s bn g) s.holds v (x + 1)
    have hmk := Cutter.mid_map (C := hdC s bn g) hkey (fun _ _ => rfl) s.holds v (x + 1)
    obtain ⟨M, ov, hmid⟩ : ∃ M ov, (hdC s bn g).mid s.holds v (x + 1) = (M, ov) := ⟨_, _, rfl⟩
    rw [hmid] at hI hov hstep hstay hat hml hmk
    simp only at hI hov hstep hat hml hmk
    have hMx : x < M.length := by omega
    have hML : M[x] = s.holds[x] := by
      rw [List.getElem?_eq_getElem hMx] at hat
      exact Option.some.inj hat
    have hI' := Lib.hid hI
    clear hmid hat hI
    have x0 := hbX.cell (j := 0) rfl
    have x1 := hbX.cell (j := 1) rfl
    have x2 := hbX.cell (j := 2) rfl
    rw [hmx] at x0 x1 x2 ⊢
    rw [hox] at x0
    rw [hlx] at x1
    have y0 : W.cell? ⟨w.heap.size, 0, none⟩ = some (.pointer (some ⟨b, 0, none⟩)) := Boxed.cell (show Boxed W w.heap.size 91 (.pointer (some ⟨b, 0, none⟩)) from hI'.out.held (w.heap.size, Obj.cells #[.pointer (some ⟨b, 0, none⟩)] 91 (0, 0)) (by rw [hL]; simp))
    have z1 := hI'.out.bx.box.cell (j := 7) rfl
    have z2 := hI'.out.bx.box.cell (j := 8) rfl
    have l0 := hI'.out.held.lt (w.heap.size, Obj.cells #[.pointer (some ⟨b, 0, none⟩)] 91 (0, 0)) (by rw [hL]; simp)
    simp only at l0
    have lb : b < W.heap.size := hI'.out.bx.lt
    have lX := hbX.lt
    have ho' : o < (hdS s bn M).orders.length := by show o < (hdO s bn M).length; rw [hdO_len]; exact ho
    have hkk' : kk < ((hdS s bn M).order o).lines.length := by rw [hdS_lines ho]; exact hkk
    obtain ⟨go, co, curo, eo, hgo, hblko, oc0, oc1⟩ := hI'.out.bx.own.orderAt ho'
    obtain ⟨gl, cl, curl, el, hgl, hblkl, lc0, lc1, lc2, lc3⟩ := hI'.out.bx.own.lineAt ho' hkk'
    have hlo : (hdS s bn M).orders.length = s.orders.length := hdO_len
    have hll : ((hdS s bn M).order o).lines.length = (s.order o).lines.length := hdS_lines ho
    have hln := hdS_line (b := (bn : Int)) (l := M) ho hkk
    rw [hlo] at eo
    rw [hll] at el
    rw [hln] at lc0 lc3
    simp only at lc0 lc3
    rw [el] at oc1
    have z0 := hI'.out.bx.cells.2.1
    rw [eo] at z0
    have hoi : (o : Int) < (s.orders.length : Int) := by omega
    have hki : (kk : Int) < ((s.order o).lines.length : Int) := by omega
    have hgoW := hblko.lt
    have hglW := hblkl.lt
    have hel' := Lib.hid el
    have hln' := Lib.hid hln
    have hlc3 := Lib.hid lc3
    have hmk' := Lib.hid hmk
    have hml' := Lib.hid hml
    have hML' := Lib.hid hML
    have hox' := Lib.hid hox
    have hlx' := Lib.hid hlx
    clear hlo hll hln eo el lc1 lc2 lc3 oc0 hmk hml hML hox hlx ho' hkk'
    have q1 := fun o d os => cells_wld (w := W) (b := X) lX o d os
    have q2 := fun o d os => cells_wld (w := W) (b := w.heap.size) l0 o d os
    have q3 := fun o d os => cells_wld (w := W) (b := b) lb o d os
    have q4 := fun o d os => cells_wld (w := W) (b := go) hgoW o d os
    have q5 := fun o d os => cells_wld (w := W) (b := gl) hglW o d os
    have hbX' := Lib.hid hbX
    clear hbX
    gi_wp2_with fail
    refine wpIn_region_wld (by kernel_rfl) (by kernel_rfl) (by kernel_rfl) ?_
    repeat (go_big_quiet_step (fail))
    refine wpQuiet_nil ?_
    intro W5 hw5
    have hb5 := below_of_cls hw5
    clear hw5
    clear q1 q2 q3 q4 q5 oc1 z0
    have hI5 := Lib.hid (hI'.out.below hb5)
    have hbX5 := Lib.hid (hbX'.out.below hb5 lX)
    have l05 := Nat.lt_of_lt_of_le l0 hb5.size
    have lb5 := Nat.lt_of_lt_of_le lb hb5.size
    have lX5 := Nat.lt_of_lt_of_le lX hb5.size
    have hgl5 := Nat.lt_of_lt_of_le hglW hb5.size
    have x2 := (hb5.cell (p := ⟨X, 2, none⟩) lX).trans x2
    have y0 := (hb5.cell (p := ⟨w.heap.size, 0, none⟩) l0).trans y0
    have z1 := (hb5.cell (p := ⟨b, 7, none⟩) lb).trans z1
    have z2 := (hb5.cell (p := ⟨b, 8, none⟩) lb).trans z2
    have lc0 := (hb5.cell (p := ⟨gl, kk * 4, none⟩) hglW).trans lc0
    have hblkl5 := Lib.hid (hblkl.below hb5 hglW)
    clear hI' hbX' l0 lb lX hglW hgoW hblko hblkl x0 x1
    have q1 := fun o d os => cells_wld (w := W5) (b := X) lX5 o d os
    have q2 := fun o d os => cells_wld (w := W5) (b := w.heap.size) l05 o d os
    have q3 := fun o d os => cells_wld (w := W5) (b := b) lb5 o d os
    have q5 := fun o d os => cells_wld (w := W5) (b := gl) hgl5 o d os
    by_cases h1 : s.holds[x].bin = bn
    · have t1 : (s.holds[x].bin != (bn : Int)) = false := by simpa using h1
      by_cases h2 : (s.line o kk).good = g
      · have t2 : ((s.line o kk).good != (g : Int)) = false := by simpa using h2
        have his : (hdC s bn g).is s.holds[x] = true := hd_is.2 ⟨h1, by rw [hox'.out, hlx'.out]; exact h2⟩
        have hst := Lib.hid (hstep his)
        have his' := Lib.hid his
        clear hstep hstay h1 h2 his
        gi_wp2_with fail
        refine wpIn_region_wld (by kernel_rfl) (by kernel_rfl) (by kernel_rfl) ?_
        repeat (go_big_quiet_step (fail))
        refine wpQuiet_nil ?_
        intro W6 hw6
        have hb6 := below_of_cls hw6
        clear hw6
        clear q1 q2 q3 q5 t1 t2
        have hI6 := Lib.hid (hI5.out.below hb6)
        have hbX6 := Lib.hid (hbX5.out.below hb6 lX5)
        have hblkl6 := Lib.hid (hblkl5.out.below hb6 hgl5)
        have y6 := (hb6.cell (p := ⟨w.heap.size, 0, none⟩) l05).trans y0
        have x3 := hbX6.out.cell (j := 3) rfl
        rw [hmx] at x3
        have hb56 := hb5.trans (hb6.mono hb5.size)
        clear hI5 hbX5 hblkl5 y0 z1 z2 lc0 x2
        gi_wp2_with fail
        refine ⟨trivial, CallsIn.inRound l (callsIn_wide.2 ((ctLess W6 s.holds[x].n hI6.out.bx (by omega) (by omega)).mono ?_))⟩
        rintro e W7 ⟨rfl, hx7, hs7⟩
        have hst' := hst.out
        change (hdC s bn g).mid s.holds v x = (M.set x { s.holds[x] with n := s.holds[x].n - Cutter.less ov s.holds[x].n }, ov - Cutter.less ov s.holds[x].n) at hst'
        obtain ⟨n0, hn0⟩ : ∃ n0, s.holds[x].n = n0 := ⟨_, rfl⟩
        rw [hn0] at hst' hx7 x3 hNx ⊢
        obtain ⟨mm, hmm⟩ : ∃ mm, Cutter.less ov n0 = mm := ⟨_, rfl⟩
        have hmb' : 0 ≤ mm ∧ mm ≤ n0 := by rw [← hmm]; unfold Cutter.less; omega
        rw [hmm] at hst' hx7 ⊢
        have hst2 := Lib.hid hst'
        have hn0' := Lib.hid hn0
        clear hst hst' hn0 hmm
        -- the hold's number
        have l06 := Nat.lt_of_lt_of_le l05 hb6.size
        have y7 := (hs7.cell (p := ⟨w.heap.size, 0, none⟩) l06 (by show ¬ w.heap.size = b; omega)).trans y6
        obtain ⟨gh, c', cur, e1, hghb, hbh6, _, _, _, p3⟩ := hI6.out.bx.own.holdAt (k := x) (show x < M.length by have := hml'.out; omega)
        have hlenM : (hdS s bn M).holds.length = s.holds.length := hml'.out
        rw [hlenM, hV] at e1
        injection e1 with e1 e2 e3
        clear e2 e3 hlenM
        subst e1
        have hgM : hold (hdS s bn M).holds x = s.holds[x] := by
          show hold M x = _
          rw [← hML'.out]
          exact hold_get (by have := hml'.out; omega)
        rw [hgM, hn0'.out] at p3
        have hghne : gh ≠ b := Blk.ne hbh6 hI6.out.bx.box (by decide)
        have hbh7 := hs7.blk hbh6 hghne
        have p37 := (hs7.cell (p := ⟨gh, x * 4 + 3, none⟩) hbh6.lt hghne).trans p3
        have z7 : W7.cell? ⟨b, 2, none⟩ = some (.slice (some ⟨gh, 0, none⟩) s.holds.length ch) := by
          have := hx7.cells.2.2.1
          rw [hV] at this
          exact this
        have hxi : (x : Int) < (s.holds.length : Int) := by omega
        have hwn : IntKind.i64.wrap (n0 - mm) = n0 - mm := IntWalk.i64_in _ (by omega)
        have hx7' := Lib.hid hx7
        have hs7' := Lib.hid hs7
        clear hx7 hs7 hbh6 p3 hgM
        gi_wp2_with (refine wpListIn_store_int rfl (.tmp 61) (.tmp 59) rfl rfl gh (x * 4 + 3) _ (n0 - mm) rfl rfl p37 (hbh7.frozen _) (fun w8 hw8 => ?_); refine Hid.out ?_)
        unfold Hid
        have hMx' : x < M.length := by have := hml'.out; omega
        have hO7 : OwnSt W7 base ⟨k0, k1, .slice (some ⟨gh, 0, none⟩) s.holds.length ch, k3, k4, k5, k6, k7, k8⟩ (hdS s bn M) := by
          have := hx7'.out.own
          rw [hV] at this
          exact this
        obtain ⟨o1, hg1⟩ := Own.store hO7.holds (fun _ => rfl) (i := x) hMx' (show 3 < 4 by omega) (y := { s.holds[x] with n := n0 - mm }) (u := .int .i64 (n0 - mm)) (by
          show cHold _ = (cHold (M[x]'hMx')).set 3 _
          rw [hML'.out]
          rfl)
        rw [hw8] at o1 hg1
        have hO8 : OwnSt w8 base ⟨k0, k1, .slice (some ⟨gh, 0, none⟩) s.holds.length ch, k3, k4, k5, k6, k7, k8⟩ { hdS s bn M with holds := M.set x { s.holds[x] with n := n0 - mm } } := hO7.wroteHolds hg1 o1
        have hbx8 : Blk w8 b 95 (V.cells ++ cutR bn g (ov - mm) (.map (some mb))) := hx7'.out.box.grown hg1 (by intro he; injection he with he; exact hghne he.symm)
        have hs8 : Step (ksH b mb V) W6 w8 := (hs7'.out.mono fun j hj => .inl hj).trans (Step.of_grown hg1 fun j hj => .inr (.inl (by rw [hV, ← hj]; rfl)))
        have hm8 : ∃ D, CutMap s bn g M (x + 1) D ∧ w8.ownsMap Tryz.prog 3 (plainElem Tryz.prog 3) mb (s.holds.length - (x + 1)) D := by
          obtain ⟨D, h1, h2⟩ := hI6.out.mp
          have h3 := ownsMap_step h2 hs7'.out (fun he => ownsMap_ne h2 hI6.out.bx.box he)
          exact ⟨D, h1, h3.kept hg1 (by intro he; injection he with he; exact ownsMap_ne h3 hbh7 he)⟩
        have y8 := (hg1.block w.heap.size (Nat.lt_of_lt_of_le l06 hs7'.out.size) (by intro he; injection he with he; have := (hB'.out.own.holds.size gh rfl).2; omega))
        have y8' : w8.cell? ⟨w.heap.size, 0, none⟩ = some (.pointer (some ⟨b, 0, none⟩)) := by
          have : w8.cell? ⟨w.heap.size, 0, none⟩ = W7.cell? ⟨w.heap.size, 0, none⟩ := by unfold World.cell?; rw [y8]
          rw [this]
          exact y7
        -- the line's number
        have hkz : keptAt s.holds o kk bn - keptAt M o kk bn = 0 := by
          have h1 := keptAt_at (ok_nodup hok) hxl
          have h2 := keptAt_at (l := M) (by rw [hmk'.out]; exact ok_nodup hok) hMx'
          rw [hML'.out] at h2
          have h3 := (hd_is.1 his'.out).1
          rw [hox'.out, hlx'.out, h3] at h1 h2
          omega
        have hbk0 := hbk o kk ho hkk
        have hgx : hkey s.holds[x] = hkey s.holds[x] := rfl
        have hO8l : (V.line o) = .slice (some ⟨gl, 0, none⟩) (s.order o).lines.length cl := hel'.out
        have hol : o < ({ hdS s bn M with holds := M.set x { s.holds[x] with n := n0 - mm } } : State).orders.length := by show o < (hdO s bn M).length; rw [hdO_len]; exact ho
        have hkl : kk < (State.order { hdS s bn M with holds := M.set x { s.holds[x] with n := n0 - mm } } o).lines.length := by
          show kk < ((hdS s bn M).order o).lines.length
          rw [hdS_lines ho]
          exact hkk
        have hline : State.line { hdS s bn M with holds := M.set x { s.holds[x] with n := n0 - mm } } o kk = { s.line o kk with back := (s.line o kk).back + (keptAt s.holds o kk bn - keptAt M o kk bn) } := hln'.out
        rw [hkz, Int.add_zero] at hline
        rw [hV] at hO8l
        obtain ⟨hgll, _, _, _, lc8⟩ := hO8.lineCells hol hkl hO8l
        rw [hline] at lc8
        obtain ⟨curl8, hbl8⟩ := line_gl hO8 hol hkl hO8l
        have hglne : gl ≠ b := Blk.ne hbl8 hbx8 (by decide)
        have hwb : IntKind.i64.wrap ((s.line o kk).back + mm) = (s.line o kk).back + mm := IntWalk.i64_in _ (by omega)
        have hO8' := Lib.hid hO8
        have hbx8' := Lib.hid hbx8
        have hs8' := Lib.hid hs8
        have hm8' := Lib.hid hm8
        have hline' := Lib.hid hline
        have hO8l' := Lib.hid hO8l
        have hkz' := Lib.hid hkz
        clear hO7 o1 hg1 hO8 hbx8 hs8 hm8 y8 hgx hw8 hx7' hs7' y7 z7 p37 hbh7 hline hO8l hkz hwn
        gi_wp2_with (refine wpListIn_store_int rfl (.tmp 69) (.tmp 67) rfl rfl gl (kk * 4 + 3) _ ((s.line o kk).back + mm) rfl rfl lc8 (hbl8.frozen _) (fun w9 hw9 => ?_); refine Hid.out ?_)
        unfold Hid
        obtain ⟨hO9, hg9⟩ := hO8'.out.setLine hol hkl hO8l'.out (show 3 < 4 by omega) (y := { s.line o kk with back := (s.line o kk).back + mm }) (u := .int .i64 ((s.line o kk).back + mm)) (by rw [hline'.out]; rfl)
        rw [hw9] at hO9 hg9
        have hdst : hdS s bn (M.set x { s.holds[x] with n := n0 - mm }) = ({ hdS s bn M with holds := M.set x { s.holds[x] with n := n0 - mm } } : State).setLine o kk { s.line o kk with back := (s.line o kk).back + mm } := by
          have := hdS_step (s := s) (b := bn) (l := M) (j := x) (o := o) (k := kk) (m := mm) (by rw [hmk'.out]; exact ok_nodup hok) hMx' (by rw [hML'.out]; exact hox'.out) (by rw [hML'.out]; exact hlx'.out) (by rw [hML'.out]; exact (hd_is.1 his'.out).1) ho hkk
          rw [hML'.out, hn0'.out] at this
          rw [this, hln'.out, hkz'.out, Int.add_zero]
        have hb9 : Blk w9 b 95 (V.cells ++ cutR bn g (ov - mm) (.map (some mb))) := hbx8'.out.grown hg9 (by intro he; injection he with he; exact hglne he.symm)
        have hx9 : Bx w9 base b 95 (cutR bn g (ov - mm) (.map (some mb))) V (hdS s bn (M.set x { s.holds[x] with n := n0 - mm })) := ⟨hb9, by rw [hV, hdst]; exact hO9, boxTC⟩
        have hs9 : Step (ksH b mb V) W6 w9 := hs8'.out.trans (Step.of_grown hg9 fun j hj => .inr (.inr (.inr ⟨o, by rw [hI6.out.bx.own.llen]; show o < (hdO s bn M).length; rw [hdO_len]; exact ho, by rw [hel'.out, ← hj]; rfl⟩)))
        have hm9 : ∃ D, CutMap s bn g M (x + 1) D ∧ w9.ownsMap Tryz.prog 3 (plainElem Tryz.prog 3) mb (s.holds.length - (x + 1)) D := by
          obtain ⟨D, h1, h2⟩ := hm8'.out
          exact ⟨D, h1, h2.kept hg9 (by intro he; injection he with he; exact ownsMap_ne h2 hbl8 he)⟩
        have l06' := Nat.lt_of_lt_of_le l05 hb6.size
        have lX6 := Nat.lt_of_lt_of_le lX5 hb6.size
        have y9 := (hs9.cell (p := ⟨w.heap.size, 0, none⟩) l06' (fun h => by have := hks.out _ h; simp only at this; omega)).trans y6
        have x09 := (hs9.cell (p := ⟨X, 0, none⟩) lX6 (fun h => by have := hks.out _ h; simp only at this; omega)).trans (hbX6.out.cell (j := 0) rfl)
        have x19 := (hs9.cell (p := ⟨X, 1, none⟩) lX6 (fun h => by have := hks.out _ h; simp only at this; omega)).trans (hbX6.out.cell (j := 1) rfl)
        have z9 := hb9.cell (j := 10) rfl
        rw [hmx, hox'.out] at x09
        rw [hmx, hlx'.out] at x19
        have hlt9 : w.heap.size < w9.heap.size := Nat.lt_of_lt_of_le l06' hs9.size
        have hlX9 : X < w9.heap.size := Nat.lt_of_lt_of_le lX6 hs9.size
        have hlb9 : b < w9.heap.size := hb9.lt
        have hH9 : HeldDs L w9 := fun y hy => hs9.heap (hI6.out.held y hy) (fun h => by
          have := hks.out _ h
          rw [hL] at hy
          simp at hy
          rcases hy with rfl | rfl <;> simp only at this <;> omega)
        have hx9' := Lib.hid hx9
        have hs9' := Lib.hid hs9
        have hm9' := Lib.hid hm9
        have hH9' := Lib.hid hH9
        have hk3 : kk < 3 := by omega
        have hw1 : IntKind.i64.wrap ((o : Int) * 3) = (o : Int) * 3 := IntWalk.i64_in _ (by omega)
        have hw2' : IntKind.i64.wrap ((o : Int) * 3 + kk) = (o : Int) * 3 + kk := IntWalk.i64_in _ (by omega)
        have hw3 : IntKind.i64.wrap mm = mm := IntWalk.i64_in _ (by omega)
        clear hO9 hg9 hb9 hx9 hs9 hm9 hH9 hdst hw9 lc8 hbl8 y8' hwb y6 x3 hMx'
        gi_wp2_with fail
        obtain ⟨D, hD1, hD2⟩ := hm9'.out
        have hkey : keyOf Tryz.prog 3 (.int .i64 ((o : Int) * 3 + kk)) = some (keyL ((o : Int) * 3 + kk)) := keyInt (by omega)
        have hfresh : has D (keyL ((o : Int) * 3 + kk)) = false := by
          have := hD1.fresh hok hxl his'.out
          rw [hox'.out, hlx'.out] at this
          exact this
        have hlook : ∀ w', Below w9.heap.size w9 w' → (Instr.lookup 93 (.map (some mb)) (.int .i64 ((o : Int) * 3 + kk)) false).run Tryz.prog w' = .ok (.int .i64 0) w' := fun w' hb => by
          obtain ⟨c, h1, h2, _⟩ := (hD2.kept (grown_of_below (row := none) hb) (by simp)).lookup_int lawInt Tryz.underlying93 Tryz.underlying3 (zeroInt w') hkey
          rw [atKey_of_not_has hfresh] at h2
          injection h2 with h2
          injection h2 with _ h2
          rw [← h2] at h1
          exact h1
        have hlook' := Lib.hid hlook
        have hfresh' := Lib.hid hfresh
        clear hlook hfresh
        refine wpIn_region_of_any (by kernel_rfl) (fun h => by obtain ⟨_, _, h⟩ := h; exact h) (by kernel_rfl) (any_ops 13 [
          fun g' _ => g' 70 = .pointer (some ⟨b, 0, none⟩), fun g' _ => g' 71 = .pointer (some ⟨b, 0, none⟩), fun g' _ => g' 72 = .pointer (some ⟨b, 10, none⟩), fun g' _ => g' 73 = .map (some mb),
          fun g' _ => g' 74 = .pointer (some ⟨X, 0, none⟩), fun g' _ => g' 75 = .int .i64 o, fun g' _ => g' 76 = .int .i64 ((o : Int) * 3), fun g' _ => g' 77 = .pointer (some ⟨X, 1, none⟩), fun g' _ => g' 78 = .int .i64 kk,
          fun g' _ => g' 79 = .int .i64 ((o : Int) * 3 + kk), fun g' _ => g' 80 = .int .i64 0, fun g' _ => g' 81 = .int .i64 mm, fun g' _ => g' 82 = .int .i64 mm] (by kernel_rfl) rfl (by kernel_rfl) ?m9ops (fun f w10 hT hR => ?m9fin))
        case m9ops =>
          simp only [List.take_succ_cons, List.take_zero]
          refine OpsOK.cons (OpOK.val rfl rfl (fun gq w' hb ho hd => ?_)) ?_
          · have e1 := ho 1 rfl
            have e2 := (hb.cell (p := ⟨w.heap.size, 0, none⟩) hlt9).trans y9
            go_simp
          refine OpsOK.cons (OpOK.val rfl rfl (fun gq w' hb ho hd => ?_)) ?_
          · have e1 : gq 70 = .pointer (some ⟨b, 0, none⟩) := hd ⟨0, .data⟩ (by simp) rfl (by decide)
            go_simp
          refine OpsOK.cons (OpOK.val rfl rfl (fun gq w' hb ho hd => ?_)) ?_
          · have e1 : gq 71 = .pointer (some ⟨b, 0, none⟩) := hd ⟨1, .data⟩ (by simp) rfl (by decide)
            go_simp
          refine OpsOK.cons (OpOK.val rfl rfl (fun gq w' hb ho hd => ?_)) ?_
          · have e1 : gq 72 = .pointer (some ⟨b, 10, none⟩) := hd ⟨2, .data⟩ (by simp) rfl (by decide)
            have e2 := (hb.cell (p := ⟨b, 10, none⟩) hlb9).trans z9
            go_simp
          refine OpsOK.cons (OpOK.val rfl rfl (fun gq w' hb ho hd => ?_)) ?_
          · have e1 := ho 3 rfl
            go_simp
          refine OpsOK.cons (OpOK.val rfl rfl (fun gq w' hb ho hd => ?_)) ?_
          · have e1 : gq 74 = .pointer (some ⟨X, 0, none⟩) := hd ⟨4, .data⟩ (by simp) rfl (by decide)
            have e2 := (hb.cell (p := ⟨X, 0, none⟩) hlX9).trans x09
            go_simp
          refine OpsOK.cons (OpOK.val rfl rfl (fun gq w' hb ho hd => ?_)) ?_
          · have e1 : gq 75 = .int .i64 o := hd ⟨5, .data⟩ (by simp) rfl (by decide)
            go_simp
          refine OpsOK.cons (OpOK.val rfl rfl (fun gq w' hb ho hd => ?_)) ?_
          · have e1 := ho 3 rfl
            go_simp
          refine OpsOK.cons (OpOK.val rfl rfl (fun gq w' hb ho hd => ?_)) ?_
          · have e1 : gq 77 = .pointer (some ⟨X, 1, none⟩) := hd ⟨7, .data⟩ (by simp) rfl (by decide)
            have e2 := (hb.cell (p := ⟨X, 1, none⟩) hlX9).trans x19
            go_simp
          refine OpsOK.cons (OpOK.val rfl rfl (fun gq w' hb ho hd => ?_)) ?_
          · have e1 : gq 76 = .int .i64 ((o : Int) * 3) := hd ⟨6, .data⟩ (by simp) rfl (by decide)
            have e2 : gq 78 = .int .i64 kk := hd ⟨8, .data⟩ (by simp) rfl (by decide)
            go_simp
          refine OpsOK.cons (OpOK.val rfl rfl (fun gq w' hb ho hd => ?_)) ?_
          · have e1 : gq 73 = .map (some mb) := hd ⟨3, .data⟩ (by simp) rfl (by decide)
            have e2 : gq 79 = .int .i64 ((o : Int) * 3 + kk) := hd ⟨9, .data⟩ (by simp) rfl (by decide)
            have e3 := hlook'.out w' hb
            simp only [execOp, evL_tmp, e1, e2, Sem.run_bind, e3, Result.andThen, Sem.run_pure]
          refine OpsOK.cons (OpOK.val rfl rfl (fun gq w' hb ho hd => ?_)) ?_
          · have e1 := ho 5 rfl
            go_simp
          refine OpsOK.cons (OpOK.val rfl rfl (fun gq w' hb ho hd => ?_)) ?_
          · have e1 : gq 80 = .int .i64 0 := hd ⟨10, .data⟩ (by simp) rfl (by decide)
            have e2 : gq 81 = .int .i64 mm := hd ⟨11, .data⟩ (by simp) rfl (by decide)
            go_simp
          exact OpsOK.nil
        case m9fin =>
          obtain ⟨r70, r71, r72, r73, r74, r75, r76, r77, r78, r79, r80, r81, r82, _⟩ := hR
          simp only [fillA, fillT, List.take_succ_cons, List.take_zero, List.drop_succ_cons, List.drop_zero, List.filterMap_cons, List.filterMap_nil, List.foldl_cons, List.foldl_nil, List.setIfInBounds_toArray, List.set_cons_zero, List.set_cons_succ, r70, r71, r72, r73, r74, r75, r76, r77, r78, r79, r80, r81, r82]
          clear r70 r71 r72 r73 r74 r75 r76 r77 r78 r79 r80 r81 r82
          have hm10 := hD2.kept (grown_of_below (row := none) hT) (by simp)
          refine wpList_mapUpdate_own _ rfl (.tmp 73) (.tmp 79) (.tmp 82) 93 rfl 3 3 lawInt Tryz.underlying93 _ mb (s.holds.length - (x + 1)) D rfl hm10 (by unfold maxLen; omega) _ _ (keyL ((o : Int) * 3 + kk)) rfl rfl hkey (.lit (.int .i64 mm)) [] (plainElem_int Tryz.underlying3 (WalkArith.wf_i64 (by omega))) ?_
          intro w11 hown11 hg11
          refine wpList_nil ?_
          have hx10 := hx9'.out.below hT
          have hx11 := hx10.noncell hg11 (fun r e => by injection e with e; subst e; exact ownsMap_obj hm10)
          have hs11 : Step (ksH b mb V) W6 w11 := (hs9'.out.trans (.of_below hT)).trans (Step.of_grown hg11 fun j hj => .inr (.inr (.inl (by injection hj with hj; exact hj.symm))))
          have hH11 : HeldDs L w11 := fun y hy => by
            have h1 : w10.heap[y.1]? = some y.2 := (hT.block y.1 (hH9'.out.lt y hy)).trans (hH9'.out y hy)
            refine (hg11.block y.1 (Array.getElem?_eq_some_iff.1 h1).1 fun he => ?_).trans h1
            have hm := hks.out mb (.inr (.inr (.inl rfl)))
            injection he with he
            rw [hL] at hy
            simp at hy
            rcases hy with rfl | rfl <;> simp only at he <;> omega
          have hput := hD1.put hok hxl his'.out hox'.out hlx'.out hk3 hmk'.out (by have := hml'.out; omega) hML'.out (m := mm)
          rw [hn0'.out] at hput
          have hfin : KeepsFrom w2.heap.size W w11 ∧ (k + 1 ≤ s.holds.length ∧ CutJ w base b mb V s bn g ((hdC s bn g).mid s.holds v x).2 ((hdC s bn g).mid s.holds v x).1 x L w11) := by
            refine ⟨(keeps_below hb56).trans (keeps_of_step hs11 fun j hj => Nat.lt_of_lt_of_le (hks.out j hj) hw2), by omega, ?_⟩
            rw [hst2.out]
            exact ⟨hx11, hH11, hI6.out.st.trans hs11, _, hput, hown11.mono (by omega)⟩
          exact hfin
      · have t2 : ((s.line o kk).good != (g : Int)) = true := by simpa using h2
        have hno : (hdC s bn g).is s.holds[x] = false := by
          cases hq : (hdC s bn g).is s.holds[x]
          · rfl
          · have := (hd_is.1 hq).2
            rw [hox'.out, hlx'.out] at this
            exact absurd this h2
        have hst := Lib.hid (hstay hno)
        have hno' := Lib.hid hno
        clear hstep hstay h1 h2 hno
        gi_wp2_with fail
        refine wpIn_region_wld (by kernel_rfl) (by kernel_rfl) (by kernel_rfl) ?_
        repeat (go_big_quiet_step (fail))
        refine wpQuiet_nil ?_
        intro W6 hw6
        have hb6 := below_of_cls hw6
        clear hw6
        clear q1 q2 q3 q5 t1 t2 y0 z1 z2 lc0 x2
        gi_wp2_with fail
        exact ⟨keeps_below (hb5.trans (hb6.mono hb5.size)), by omega, by rw [hst.out]; exact (hI5.out.below hb6).skip hxl hno'.out⟩
    · have t1 : (s.holds[x].bin != (bn : Int)) = true := by simpa using h1
      have hno : (hdC s bn g).is s.holds[x] = false := by
        cases hq : (hdC s bn g).is s.holds[x]
        · rfl
        · exact absurd (hd_is.1 hq).1 h1
      have hst := Lib.hid (hstay hno)
      have hno' := Lib.hid hno
      clear hstep hstay h1 hno
      gi_wp2_with fail
      refine wpIn_region_wld (by kernel_rfl) (by kernel_rfl) (by kernel_rfl) ?_
      repeat (go_big_quiet_step (fail))
      refine wpQuiet_nil ?_
      intro W6 hw6
      have hb6 := below_of_cls hw6
      clear hw6
      clear q1 q2 q3 q5 t1 y0 z1 z2 lc0 x2
      gi_wp2_with fail
      exact ⟨keeps_below (hb5.trans (hb6.mono hb5.size)), by omega, by rw [hst.out]; exact (hI5.out.below hb6).skip hxl hno'.out⟩
  case hdone =>
    intro D W hD ⟨hk, hI⟩ hWd
    rw [Nat.sub_self] at hI
    have hmv : (hdC s bn g).rest s.holds v = ((hdC s bn g).mid s.holds v 0).1.filter fun x => !(x.n == 0) := by
      rw [Cutter.mid_zero]
      unfold Cutter.rest
      refine congrArg (fun f => List.filter f ((hdC s bn g).cut s.holds v).1) (funext fun x => ?_)
      show (!decide (x.n = 0)) = !(x.n == 0)
      by_cases hx : x.n = 0 <;> simp [hx]
    have hml := Cutter.mid_len (C := hdC s bn g) s.holds v 0
    obtain ⟨M, ov, hmid⟩ : ∃ M ov, (hdC s bn g).mid s.holds v 0 = (M, ov) := ⟨_, _, rfl⟩
    rw [hmid] at hI hml hmv
    simp only at hI hml hmv
    have hmv' := Lib.hid hmv
    have hmid' := Lib.hid hmid
    clear hmv hmid
    have hI' := Lib.hid hI
    have y0 : W.cell? ⟨w.heap.size, 0, none⟩ = some (.pointer (some ⟨b, 0, none⟩)) := Boxed.cell (show Boxed W w.heap.size 91 (.pointer (some ⟨b, 0, none⟩)) from hI.held (w.heap.size, Obj.cells #[.pointer (some ⟨b, 0, none⟩)] 91 (0, 0)) (by rw [hL]; simp))
    have l0 := hI.held.lt (w.heap.size, Obj.cells #[.pointer (some ⟨b, 0, none⟩)] 91 (0, 0)) (by rw [hL]; simp)
    simp only at l0
    have c3 := hI.bx.cells.2.2.1
    rw [hV] at c3
    simp only at c3
    have hnb := Lib.hid (show ∀ j, (Value.slice Ah s.holds.length ch).ownBlock = some j → j ≠ b ∧ j < w.heap.size from fun j hj => by
      refine ⟨fun he => ?_, (hB'.out.own.holds.size j hj).2⟩
      rcases hI.bx.own.holds.notBox hI.bx.box (by decide) with h | h
      · rw [hV] at h; simp only at h; rw [h] at hj; cases hj
      · rw [hV] at h; exact h (by rw [← he]; exact hj))
    have lb : b < W.heap.size := hI.bx.lt
    have hLD : D ≠ b := by omega
    clear hI
    gi_wp2_with fail
    have hmlen := Lib.hid hml
    clear hml
    refine wp_region_opsB 10 (fun w' => Step (fun j => (Value.slice Ah s.holds.length ch).ownBlock = some j) W w') (fun w' => Below W.heap.size W w') (fun w1 w2 => Step (fun j => (Value.slice Ah s.holds.length ch).ownBlock = some j) w1 w2) 6 [
      fun g' _ => g' 83 = .pointer (some ⟨b, 0, none⟩), fun g' _ => g' 84 = .pointer (some ⟨b, 0, none⟩), fun g' _ => g' 85 = .pointer (some ⟨b, 0, none⟩), fun g' _ => g' 86 = .pointer (some ⟨b, 0, none⟩), fun g' _ => g' 87 = .pointer (some ⟨b, 2, none⟩),
      fun g' _ => g' 88 = .slice Ah s.holds.length ch, fun g' w' => Own cHold 4 46 w' base (g' 89) (M.filter fun x => !(x.n == 0)),
      fun g' _ => g' 90 = .pointer (some ⟨b, 0, none⟩), fun g' _ => g' 91 = .pointer (some ⟨b, 0, none⟩), fun g' _ => g' 92 = .pointer (some ⟨b, 2, none⟩)] (by kernel_rfl) (by kernel_rfl) rfl (by kernel_rfl)
      (fun w1 w2 h hb => h.trans (.of_below hb)) (fun w1 w2 h h' => h.trans h') (fun w1 w2 h hb => h.trans (hb.mono h.size)) (.of_below (Below.refl _ _).drew) (Below.refl _ _).drew ?d6ops (fun f w9 hT hR => ?d6fin)
    case d6ops =>
      simp only [List.take_succ_cons, List.take_zero]
      refine OpsBrk.cons (OpBrk.val rfl rfl (by decide) (fun gq w' hT ho hd => ?_)) ?_
      · have e1 := ho 1 rfl
        have e2 := (hT.cell (p := ⟨w.heap.size, 0, none⟩) l0 (fun h => by have := (hnb.out _ h).2; simp only at this; omega)).trans y0
        go_simp
      refine OpsBrk.cons (OpBrk.val rfl rfl (by decide) (fun gq w' hT ho hd => ?_)) ?_
      · have e1 := ho 1 rfl
        have e2 := (hT.cell (p := ⟨w.heap.size, 0, none⟩) l0 (fun h => by have := (hnb.out _ h).2; simp only at this; omega)).trans y0
        go_simp
      refine OpsBrk.cons (OpBrk.val rfl rfl (by decide) (fun gq w' hT ho hd => ?_)) ?_
      · have e1 : gq 84 = .pointer (some ⟨b, 0, none⟩) := hd ⟨1, .data⟩ (by simp) rfl (by decide)
        go_simp
      refine OpsBrk.cons (OpBrk.val rfl rfl (by decide) (fun gq w' hT ho hd => ?_)) ?_
      · have e1 : gq 85 = .pointer (some ⟨b, 0, none⟩) := hd ⟨2, .data⟩ (by simp) rfl (by decide)
        go_simp
      refine OpsBrk.cons (OpBrk.val rfl rfl (by decide) (fun gq w' hT ho hd => ?_)) ?_
      · have e1 : gq 86 = .pointer (some ⟨b, 0, none⟩) := hd ⟨3, .data⟩ (by simp) rfl (by decide)
        go_simp
      refine OpsBrk.cons (OpBrk.val rfl rfl (by decide) (fun gq w' hT ho hd => ?_)) ?_
      · have e1 : gq 87 = .pointer (some ⟨b, 2, none⟩) := hd ⟨4, .data⟩ (by simp) rfl (by decide)
        have e2 := (hT.cell (p := ⟨b, 2, none⟩) lb (fun h => (hnb.out _ h).1 rfl)).trans c3
        go_simp
      refine OpsBrk.cons ⟨fun gq w1 w2 h hb => h.below hb, fun hne => absurd rfl hne, fun gq gq' w1 he h => ?_, fun gq w' hT hJ ho hd => ?_⟩ ?_
      · have e61 := he 6 _ 89 (.self 6) rfl rfl
        simp only [e61] at h
        exact h
      · have e1 : gq 88 = .slice Ah s.holds.length ch := hd ⟨5, .data⟩ (by simp) rfl (by decide)
        have hbel := hJ rfl
        have hcall := delFuncHold w' base (.slice Ah s.holds.length ch) M 119 #[] (fun x => x.n == 0) entersHd (by have := (hI'.out.below hbel).bx.own.holds; rw [hV] at this; exact this) (by have := hmlen.out; omega) (fun k _ V _ => hdZero V _)
        unfold OpRel
        go_simp
        refine hcall.mono ?_
        rintro e w'' ⟨v', rfl, ho', hs', _⟩
        refine ⟨_, rfl, ?_, hs'⟩
        simpa [updO, upd] using ho'
      refine OpsBrk.cons (OpBrk.val rfl rfl (by decide) (fun gq w' hT ho hd => ?_)) ?_
      · have e1 : gq 83 = .pointer (some ⟨b, 0, none⟩) := hd ⟨0, .data⟩ (by simp) rfl (by decide)
        go_simp
      refine OpsBrk.cons (OpBrk.val rfl rfl (by decide) (fun gq w' hT ho hd => ?_)) ?_
      · have e1 : gq 90 = .pointer (some ⟨b, 0, none⟩) := hd ⟨7, .data⟩ (by simp) rfl (by decide)
        go_simp
      refine OpsBrk.cons (OpBrk.val rfl rfl (by decide) (fun gq w' hT ho hd => ?_)) ?_
      · have e1 : gq 91 = .pointer (some ⟨b, 0, none⟩) := hd ⟨8, .data⟩ (by simp) rfl (by decide)
        go_simp
      exact OpsBrk.nil
    case d6fin =>
      obtain ⟨r83, r84, r85, r86, r87, r88, ho9, r90, r91, r92, _⟩ := hR
      obtain ⟨A9, c9, hv9⟩ := ho9.isSlice
      rw [hv9] at ho9
      simp only [fillA, fillT, List.take_succ_cons, List.take_zero, List.drop_succ_cons, List.drop_zero, List.filterMap_cons, List.filterMap_nil, List.foldl_cons, List.foldl_nil, List.setIfInBounds_toArray, List.set_cons_zero, List.set_cons_succ, r83, r84, r85, r86, r87, r88, hv9, r90, r91, r92]
      clear r83 r84 r85 r86 r87 r88 r90 r91 r92 hv9
      have hO0 : OwnSt W base ⟨k0, k1, .slice Ah s.holds.length ch, k3, k4, k5, k6, k7, k8⟩ (hdS s bn M) := by
        have := hI'.out.bx.own
        rw [hV] at this
        exact this
      have hO9 : OwnSt w9 base ⟨k0, k1, .slice A9 (M.filter fun x => !(x.n == 0)).length c9, k3, k4, k5, k6, k7, k8⟩ { hdS s bn M with holds := M.filter fun x => !(x.n == 0) } := hO0.stepHolds hT ho9
      have hb9 : Blk w9 b 95 (SV.cells ⟨k0, k1, .slice Ah s.holds.length ch, k3, k4, k5, k6, k7, k8⟩ ++ cutR bn g ov (.map (some mb))) := by
        have := hT.blk hI'.out.bx.box (fun h => (hnb.out _ h).1 rfl)
        rw [hV] at this
        exact this
      refine wp_st_holds' rfl (.tmp 92) (.tmp 89) rfl rfl A9 (M.filter fun x => !(x.n == 0)).length c9 (V := ⟨k0, k1, .slice Ah s.holds.length ch, k3, k4, k5, k6, k7, k8⟩) (cs := cutR bn g ov (.map (some mb))) (b := b) hb9 hO9 boxTC rfl rfl rfl (fun w10 hx10 hst10 => ?_)
      refine wpList_nil ?_
      have hD9 : w9.heap[D]? = some (.deferred (some [])) := hT.heap hWd (fun h => by have := (hnb.out _ h).2; omega)
      have hD10 := hst10.heap hD9 hLD
      have hs10 : Step (ksH b mb V) w w10 := hI'.out.st.trans ((hT.mono fun j h => .inr (.inl (by rw [hV]; exact h))).trans (hst10.mono fun j h => .inl h))
      obtain ⟨DD, hc1, hc2⟩ := hI'.out.mp
      have hmo := ownsMap_obj hc2
      have hc3 := ownsMap_step hc2 hT (fun h => by
        obtain ⟨cur, hcb⟩ := hO0.holds.block h
        obtain ⟨o', ho1, ho2⟩ := hmo
        rw [hcb] at ho1
        injection ho1 with ho1
        subst ho1
        cases ho2)
      have hc4 := ownsMap_step hc3 hst10 (fun h => ownsMap_ne hc3 hb9 h)
      have hx10' := Lib.hid hx10
      clear hx10 hst10 hO9 hb9 hT ho9 hc2 hc3 hO0
      go_wp2_with fail
      have hgD := grownBy_putObj' w10 D (.deferred none)
      have hx11 := hx10'.out.noncell hgD (fun r e => by cases e; exact ⟨_, hD10, rfl⟩)
      refine ⟨by simp, .inl ⟨_, _, rfl, run_takeDeferred hD10, ?_⟩⟩
      have hkk : ∀ o k : Nat, keptAt ((hdC s bn g).rest s.holds v) o k bn = keptAt M o k bn := fun o k => by
        have hmk := Cutter.mid_map (C := hdC s bn g) hkey (fun _ _ => rfl) s.holds v 0
        rw [hmid'.out] at hmk
        have hf : (fun x : Hold => !(x.n == 0)) = fun x => !decide (x.n = 0) := funext fun x => by by_cases hx : x.n = 0 <;> simp [hx]
        rw [hmv'.out, hf]
        exact keptAt_keep (by rw [hmk]; exact ok_nodup hok) o k bn
      refine ⟨.tuple #[], results_none rfl _ _ _, rfl, ⟨k0, k1, .slice A9 (M.filter fun x => !(x.n == 0)).length c9, k3, k4, k5, k6, k7, k8⟩, ov, DD, rfl, ?_, ?_, hc1.congr hkk, ?_⟩
      · have e : hdS s bn ((hdC s bn g).rest s.holds v) = { hdS s bn M with holds := M.filter fun x => !(x.n == 0) } := by
          unfold hdS
          rw [hdO_congr hkk, hmv'.out]
        rw [e]
        exact hx11
      · rw [← hV]
        refine hs10.trans' (Step.of_grown (ks := fun k => some D = some k) hgD fun k e => e) fun k hk e => ?_
        injection e with e
        omega
      · refine (hc4.kept hgD (fun e => ?_)).mono (by omega)
        injection e with e
        omega
end Wh
