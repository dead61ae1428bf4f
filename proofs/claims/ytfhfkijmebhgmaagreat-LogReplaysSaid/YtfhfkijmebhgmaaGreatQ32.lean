/- Texts of the claim, joined: CountC, CountM. -/
import Derived.Maps.OwnOps
import Derived.Maps.OwnIn
import Derived.Maps.OwnSet
import Derived.Maps.Views
import Derived.Test.YtfhfkijmebhgmaaGreatQ30
import Derived.Test.YtfhfkijmebhgmaaGreatQ31
import Derived.Test.YtfhfkijmebhgmaaGreatQ27
import Derived.Test.YtfhfkijmebhgmaaGreatQ29
namespace Wh
open Go Go.RowKit Go.Shelf Go.Proofs
attribute [local go_sem] run_indexAt_letter evL_tmp evL_const evL_func
attribute [local go_sem] Oper.semAt_some

/-- What a cutter's loop keeps: the state in its box, boxes of its own, all that is old but the box and one slice's block. -/
structure CutI (w : World) (base b : Nat) (rst : List Value) (V : SV) (s : State) (row : Option Nat) (L : List (Nat × Obj)) (W : World) : Prop where
  bx : Bx W base b 95 rst V s
  held : HeldDs L W
  st : Step (fun j => j = b ∨ row = some j) w W
theorem CutI.own {w : World} {base b : Nat} {rst : List Value} {V : SV} {s : State} {row : Option Nat} {L : List (Nat × Obj)} {B : Nat} (hL : ∀ x ∈ L, x.1 < B) (hB : w.heap.size ≤ B) {X Y : World} {rw_ : Option Nat} (hs : CutI w base b rst V s row L X)
    (hg : X.grownBy Y rw_) (hr : ∀ r, rw_ = some r → B ≤ r ∧ ∃ o : Obj, X.heap[r]? = some o ∧ o.isCells = false) : CutI w base b rst V s row L Y :=
  ⟨hs.bx.noncell hg fun r e => (hr r e).2, HeldDs.from_ hL () X Y rw_ hs.held hg hr, hs.st.trans' (Step.of_grown (ks := fun k => rw_ = some k) hg fun k e => e) fun k hk e => by have := (hr k e).1; omega⟩
theorem CutI.below {w : World} {base b : Nat} {rst : List Value} {V : SV} {s : State} {row : Option Nat} {L : List (Nat × Obj)} {W W' : World} (h : CutI w base b rst V s row L W) (hb : Below W.heap.size W W') : CutI w base b rst V s row L W' :=
  ⟨h.bx.below hb, fun x hx => (hb.block x.1 (h.held.lt x hx)).trans (h.held x hx), h.st.trans (.of_below hb)⟩

theorem keeps_step {B : Nat} {ks : Nat → Prop} {W W' : World} (h : Step ks W W') (hc : ∀ k, ks k → ∃ cs t sp, W.heap[k]? = some (.cells cs t sp)) : KeepsFrom B W W' :=
  ⟨h.size, fun k o _ hk ho => h.heap hk fun hh => by
    obtain ⟨cs, t, sp, e⟩ := hc k hh
    rw [e] at hk
    injection hk with hk
    subst hk
    cases ho⟩
theorem blk_cells {W : World} {g : Nat} {t : TypeId} {cur : List Value} (h : Blk W g t cur) : ∃ cs t sp, W.heap[g]? = some (.cells cs t sp) := ⟨_, _, _, h⟩
theorem held_ne {L : List (Nat × Obj)} {W : World} {g : Nat} {t : TypeId} {cur : List Value} (h : HeldDs L W) (hb : Blk W g t cur) (ht : ∀ x ∈ L, ∀ cs sp, x.2 ≠ .cells cs t sp) : ∀ x ∈ L, x.1 ≠ g := fun x hx he => by
  have h1 := h x hx
  rw [he, show W.heap[g]? = _ from hb] at h1
  injection h1 with h1
  exact ht x hx _ _ h1.symm
theorem Step.cell {ks : Nat → Prop} {w w' : World} (h : Step ks w w') {p : Addr} (hb : p.block < w.heap.size) (hn : ¬ ks p.block) : w'.cell? p = w.cell? p := by
  unfold World.cell?
  rw [h.block p.block hb hn]
/-- A block's step and another's: what a cutter's round leaves. -/
theorem CutI.step {w : World} {base b : Nat} {rst rst' : List Value} {V V' : SV} {s s' : State} {row : Option Nat} {L : List (Nat × Obj)} {W W' : World} (h : CutI w base b rst V s row L W) (hx : Bx W' base b 95 rst' V' s') (hs : Step (fun j => j = b ∨ row = some j) W W') (hL : ∀ x ∈ L, x.1 ≠ b ∧ row ≠ some x.1) : CutI w base b rst' V' s' row L W' :=
  ⟨hx, fun x hx => hs.heap (h.held x hx) fun hh => hh.elim (hL x hx).1 (hL x hx).2, h.st.trans hs⟩

set_option maxHeartbeats 2000000 in
theorem mvZero (W : World) (x : Move) : Calls Tryz.prog 117 (#[vMove x] ++ #[]) W fun e W' => e = .returned (.bool (x.n == 0)) ∧ Below W.heap.size W W' := by
  have hb0 : Below W.heap.size W (W.alloc (.cells #[.int .i64 (x).good, .int .i64 (x).src, .int .i64 (x).dst, .int .i64 (x).n] 48)) := (Below.refl _ _).alloc (Nat.le_refl _) _
  change Calls Tryz.prog 117 #[vMove x] W _
  unfold vMove
  go_enter Tryz.func117, Tryz.ntmps117
  go_wp2_with fail
  go_ret
  exact ⟨rfl, hb0⟩
theorem entersMv : Enters Tryz.prog 117 := enters_of Tryz.func117 (by kernel_rfl) rfl
/-- Another slice of moves, when the old one's block may have been written. -/
theorem OwnSt.stepMoves {w w' : World} {base : Nat} {V : SV} {s : State} (h : OwnSt w base V s) (hs : Step (fun q => V.moves.ownBlock = some q) w w') {v : Value} {l : List Move} (hv : Own cMove 4 48 w' base v l) : OwnSt w' base { V with moves := v } { s with moves := l } :=
  ⟨h.on.step hs (off_apart (h.on.apart h.moves (by decide))), h.rlen, fun b hb => (h.row b hb).step hs (off_apart ((h.row b hb).apart h.moves (by decide))), h.orders.step hs (off_apart (h.orders.apart h.moves (by decide))), h.llen, fun o ho => (h.line o ho).step hs (off_apart ((h.line o ho).apart h.moves (by decide))),
    h.holds.step hs (off_apart (h.holds.apart h.moves (by decide))), hv, h.inn.step hs (off_apart (h.inn.apart h.moves (by decide))), h.out.step hs (off_apart (h.out.apart h.moves (by decide))), h.fixed.step hs (off_apart (h.fixed.apart h.moves (by decide))), h.apart, h.apartl⟩

set_option maxHeartbeats 8000000 in
set_option maxRecDepth 100000 in
theorem ctMoves (w : World) {base b : Nat} {V : SV} {s : State} {bn g : Nat} {v : Int} {m : Value} (hB : Bx w base b 95 (cutR bn g v m) V s) (hb : base ≤ b) (hm8 : s.moves.length ≤ 8) (hN : ∀ x ∈ s.moves, 1 ≤ x.n ∧ x.n ≤ 200) (hv : -100000 ≤ v ∧ v ≤ 100000) :
    Calls Tryz.prog 63 #[.pointer (some ⟨b, 0, none⟩)] w fun e w' => e = .returned (.tuple #[]) ∧ ∃ V', V' = { V with moves := V'.moves } ∧
      Bx w' base b 95 (cutR bn g ((mvC bn g).mid s.moves v 0).2 m) V' { s with moves := (mvC bn g).rest s.moves v } ∧ Step (fun j => j = b ∨ V.moves.ownBlock = some j) w w' := by
  have hB' := Lib.hid hB
  obtain ⟨k0, k1, k2, k3, k4, k5, k6, k7, k8⟩ := V
  obtain ⟨Am, cm, hvm⟩ := hB.own.moves.isSlice
  obtain rfl : k3 = .slice Am s.moves.length cm := hvm
  obtain ⟨c0, c1, c2, c3, c4, c5, c6⟩ := hB.cells
  simp only at c0 c1 c2 c3 c4 c5 c6
  have hbl := hB.lt
  clear hB
  refine (callsIn_wide (n := 9)).1 ?_
  refine callsIn_of_wp_marks Tryz.func63 rfl trivial ?_ rfl
  simp only [Tryz.ntmps63, List.size_toArray, List.length_cons, List.length_nil, Nat.reduceAdd, Nat.reduceSub, Array.replicate_succ, Array.replicate_zero, List.push_toArray, List.append_toArray, List.nil_append, List.cons_append]
  refine wpIn_wide.2 ?_
  go_wp2_with fail
  refine ((callsIn_wide (n := 8)).1 (backMove_in 8 _ _ _ _)).mono ?_
  rintro e W1 ⟨rfl, rfl⟩
  go_wp2_with fail
  clear c0 c1 c2 c3 c4 c5 c6
  obtain ⟨L, hL⟩ : ∃ L : List (Nat × Obj), L = [(w.heap.size, Obj.cells #[.pointer (some ⟨b, 0, none⟩)] 91 (0, 0)), (w.heap.size + 1, Obj.cells #[.slice Am s.moves.length cm] 29 (0, 0))] := ⟨_, rfl⟩
  have hba : Below w.heap.size w ((w.alloc (.cells #[.pointer (some ⟨b, 0, none⟩)] 91)).alloc (.cells #[.slice Am s.moves.length cm] 29)) := ((Below.refl _ _).alloc (Nat.le_refl _) _).alloc (by simp) _
  have hH0 : HeldDs L ((w.alloc (.cells #[.pointer (some ⟨b, 0, none⟩)] 91)).alloc (.cells #[.slice Am s.moves.length cm] 29)) := by
    intro x hx
    rw [hL] at hx
    simp at hx
    rcases hx with rfl | rfl
    · exact (heap_alloc_old (by simp)).trans (heap_alloc_at rfl)
    · exact heap_alloc_at (by simp)
  have hs2 : ((w.alloc (.cells #[.pointer (some ⟨b, 0, none⟩)] 91)).alloc (.cells #[.slice Am s.moves.length cm] 29)).heap.size = w.heap.size + 1 + 1 := by simp
  have hI0 : CutI w base b (cutR bn g v m) ⟨k0, k1, k2, .slice Am s.moves.length cm, k4, k5, k6, k7, k8⟩ s (Value.slice Am s.moves.length cm).ownBlock L ((w.alloc (.cells #[.pointer (some ⟨b, 0, none⟩)] 91)).alloc (.cells #[.slice Am s.moves.length cm] 29)) :=
    ⟨hB'.out.below hba, hH0, .of_below hba⟩
  generalize (w.alloc (.cells #[.pointer (some ⟨b, 0, none⟩)] 91)).alloc (.cells #[.slice Am s.moves.length cm] 29) = w2 at hba hH0 hs2 hI0 ⊢
  have hLlt : ∀ x ∈ L, x.1 < w2.heap.size := hH0.lt
  have hw2 : w.heap.size ≤ w2.heap.size := hba.size
  have hpos : ∀ x ∈ s.moves, 0 ≤ (mvC bn g).num x := fun x hx => by have := (hN x hx).1; show 0 ≤ x.n; omega
  refine (wpIn_wide (n := 9)).1 ?_
  refine rangeBackMove (s1 := 2) (s2 := 3) 9 (by omega) (w.heap.size + 1) Am cm s.moves (by omega) rfl
    (fun k W => k ≤ s.moves.length ∧ CutI w base b (cutR bn g ((mvC bn g).mid s.moves v (s.moves.length - k)).2 m) ⟨k0, k1, k2, .slice Am s.moves.length cm, k4, k5, k6, k7, k8⟩ { s with moves := ((mvC bn g).mid s.moves v (s.moves.length - k)).1 } (Value.slice Am s.moves.length cm).ownBlock L W)
    (fun k X Y row hs hg hr => ⟨hs.1, hs.2.own hLlt hw2 hg hr⟩) ⟨Nat.zero_le _, by rw [Nat.sub_zero, Cutter.mid_top]; exact hI0⟩ ?hR ?hsz ?hassign ?hbody ?hdone
  case hR =>
    intro k V ⟨hk, hI⟩
    refine ⟨Boxed.cell (show Boxed V (w.heap.size + 1) 29 (.slice Am s.moves.length cm) from hI.held (w.heap.size + 1, Obj.cells #[.slice Am s.moves.length cm] 29 (0, 0)) (by rw [hL]; simp)), fun i hi => ?_⟩
    have hlen := Cutter.mid_len (C := mvC bn g) s.moves v (s.moves.length - k)
    obtain ⟨gm, c', cur, e1, _, _, q0, q1, q2, q3⟩ := hI.bx.own.moveAt (k := i) (by show i < (Cutter.mid _ _ _ _).1.length; rw [hlen]; omega)
    have he : moveAt ((mvC bn g).mid s.moves v (s.moves.length - k)).1 i = moveAt s.moves i := by
      unfold moveAt
      rw [List.getD_eq_getElem?_getD, Cutter.mid_at v (i := i) (by omega) (by omega), List.getD_eq_getElem?_getD, List.getElem?_eq_getElem (by omega)]
    injection e1 with e1
    simp only [he] at q0 q1 q2 q3
    exact ⟨gm, e1, q0, q1, q2, q3⟩
  case hsz =>
    intro k V ⟨hk, hI⟩
    have := hI.held.lt (w.heap.size + 1, Obj.cells #[.slice Am s.moves.length cm] 29 (0, 0)) (by rw [hL]; simp)
    simp only at this
    omega
  case hassign =>
    intro l x W K hK
    simp only [List.setIfInBounds_toArray, List.set_cons_zero, List.set_cons_succ] at hK ⊢
    unfold vMove at hK ⊢
    gi_wp2
    exact hK
  case hbody =>
    intro l k x X W hxk ⟨hk, hI⟩ hbX hX
    simp only [List.setIfInBounds_toArray, List.set_cons_zero, List.set_cons_succ]
    unfold vMove
    have hxl : x < s.moves.length := by omega
    have ek : s.moves.length - k = x + 1 := by omega
    have ek1 : s.moves.length - (k + 1) = x := by omega
    rw [ek] at hI
    rw [ek1]
    have hmx : moveAt s.moves x = s.moves[x] := moveAt_eq hxl
    have hNx := hN _ (List.getElem_mem hxl)
    have hov := Cutter.mid_over hpos v (x + 1)
    have hstep := fun h => Cutter.mid_is (C := mvC bn g) v hxl h
    have hstay := fun h => Cutter.mid_not (C := mvC bn g) v hxl h
    have hat := Cutter.mid_at (C := mvC bn g) v (i := x) (j := x + 1) hxl (by omega)
    have hml := Cutter.mid_len (C := mvC bn g) s.moves v (x + 1)
    obtain ⟨M, ov, hmid⟩ : ∃ M ov, (mvC bn g).mid s.moves v (x + 1) = (M, ov) := ⟨_, _, rfl⟩
    rw [hmid] at hI hov hstep hstay hat hml
    simp only at hI hov hstep hat hml
    have hML : moveAt M x = s.moves[x] := by
      unfold moveAt
      rw [List.getD_eq_getElem?_getD, hat]
      rfl
    have hI' := Lib.hid hI
    have hLx := Lib.hid (show ∀ x ∈ L, x.1 ≠ b ∧ (Value.slice Am s.moves.length cm).ownBlock ≠ some x.1 from fun y hy => by
      refine ⟨fun he => ?_, fun he => ?_⟩
      · rw [hL] at hy
        simp at hy
        rcases hy with rfl | rfl <;> simp only at he <;> omega
      · obtain ⟨cur, hc⟩ := hI.bx.own.moves.block he
        exact held_ne (g := y.1) hI.held (show Blk W y.1 48 cur.toList from by simpa [Blk] using hc) (fun z hz cs sp e => by
          rw [hL] at hz
          simp at hz
          rcases hz with rfl | rfl <;> injection e with _ e _ <;> revert e <;> decide) y hy rfl)
    clear hI hmid hat
    have x0 := hbX.cell (j := 0) rfl
    have x1 := hbX.cell (j := 1) rfl
    have y0 : W.cell? ⟨w.heap.size, 0, none⟩ = some (.pointer (some ⟨b, 0, none⟩)) := Boxed.cell (show Boxed W w.heap.size 91 (.pointer (some ⟨b, 0, none⟩)) from hI'.out.held (w.heap.size, Obj.cells #[.pointer (some ⟨b, 0, none⟩)] 91 (0, 0)) (by rw [hL]; simp))
    have z1 := hI'.out.bx.box.cell (j := 7) rfl
    have z2 := hI'.out.bx.box.cell (j := 8) rfl
    have l0 := hI'.out.held.lt (w.heap.size, Obj.cells #[.pointer (some ⟨b, 0, none⟩)] 91 (0, 0)) (by rw [hL]; simp)
    simp only at l0
    have lb : b < W.heap.size := hI'.out.bx.lt
    have lX := hbX.lt
    have q1 := fun o d os => cells_wld (w := W) (b := X) lX o d os
    have q2 := fun o d os => cells_wld (w := W) (b := w.heap.size) l0 o d os
    have q3 := fun o d os => cells_wld (w := W) (b := b) lb o d os
    have hbX' := Lib.hid hbX
    clear hbX
    rw [hmx] at x0 x1 ⊢
    by_cases h1 : s.moves[x].src = bn
    · have t1 : (s.moves[x].src == (bn : Int)) = true := by simpa using h1
      by_cases h2 : s.moves[x].good = g
      · have t2 : (s.moves[x].good == (g : Int)) = true := by simpa using h2
        have hst := Lib.hid (hstep (mv_is.2 ⟨h1, h2⟩))
        clear hstep hstay h1 h2
        gi_wp2_with fail
        refine wpIn_region_wld (by kernel_rfl) (by kernel_rfl) (by kernel_rfl) ?_
        repeat (go_big_quiet_step (fail))
        refine wpQuiet_nil ?_
        intro W6 hw6
        have hb6 := below_of_cls hw6
        clear hw6
        clear x0 x1 y0 z1 z2 q1 q2 q3 t1 t2
        gi_wp2_with fail
        have hI6 := Lib.hid (hI'.out.below hb6)
        have hbX6 := Lib.hid (hbX'.out.below hb6 lX)
        obtain ⟨gm, c', cur, e1, hgb, hbm, p0, p1, p2, p3⟩ := hI6.out.bx.own.moveAt (k := x) (show x < M.length by omega)
        injection e1 with e1 e2 e3
        clear e2 e3
        simp only [hML] at p3
        subst e1
        have hgw : gm < w.heap.size := (hB'.out.own.moves.size gm rfl).2
        have hgm : gm ≠ b := Blk.ne hbm hI6.out.bx.box (by decide)
        obtain ⟨n0, hn0⟩ : ∃ n0, s.moves[x].n = n0 := ⟨_, rfl⟩
        have hst' := hst.out
        change (mvC bn g).mid s.moves v x = (M.set x { s.moves[x] with n := s.moves[x].n - Cutter.less ov s.moves[x].n }, ov - Cutter.less ov s.moves[x].n) at hst'
        rw [hn0] at p3 hNx hst'
        have hst2 := Lib.hid hst'
        have x3 := hbX6.out.cell (j := 3) rfl
        rw [hmx, hn0] at x3
        clear hst hst'
        obtain ⟨mm, hmm⟩ : ∃ mm, Cutter.less ov n0 = mm := ⟨_, rfl⟩
        have hmb : 0 ≤ mm ∧ mm ≤ n0 := by rw [← hmm]; unfold Cutter.less; omega
        have hmm' := Lib.hid hmm
        have l06 := Nat.lt_of_lt_of_le l0 hb6.size
        have lb6 := Nat.lt_of_lt_of_le lb hb6.size
        have lX6 := Nat.lt_of_lt_of_le lX hb6.size
        have y0 : W6.cell? ⟨w.heap.size, 0, none⟩ = some (.pointer (some ⟨b, 0, none⟩)) := Boxed.cell (show Boxed W6 w.heap.size 91 (.pointer (some ⟨b, 0, none⟩)) from hI6.out.held (w.heap.size, Obj.cells #[.pointer (some ⟨b, 0, none⟩)] 91 (0, 0)) (by rw [hL]; simp))
        obtain ⟨Vx, hVx⟩ : ∃ Vx : SV, Vx = ⟨k0, k1, k2, .slice (some ⟨gm, 0, none⟩) s.moves.length cm, k4, k5, k6, k7, k8⟩ := ⟨_, rfl⟩
        obtain ⟨sM, hsM⟩ : ∃ sM : State, sM = { s with moves := M } := ⟨_, rfl⟩
        have hbx6 := Lib.hid (show Bx W6 base b 95 (cutR bn g ov m) Vx sM by rw [hVx, hsM]; exact hI6.out.bx)
        have hc3 : ∀ (w' : World) (o' : Int), Bx w' base b 95 (cutR bn g o' m) Vx sM → w'.cell? ⟨b, 3, none⟩ = some (.slice (some ⟨gm, 0, none⟩) s.moves.length cm) := fun w' o' h => by have := h.cells.2.2.2.1; rw [hVx] at this; exact this
        have hc3' := Lib.hid hc3
        have hxi : (x : Int) < (s.moves.length : Int) := by omega
        have hwn : IntKind.i64.wrap (n0 - mm) = n0 - mm := IntWalk.i64_in _ (by omega)
        have hVx' := Lib.hid hVx
        have hsM' := Lib.hid hsM
        clear hc3 hmm hVx hsM
        refine wpIn_region_of_any (by kernel_rfl) (fun h => by obtain ⟨_, _, h⟩ := h; exact h) (by kernel_rfl) (any_opsB 16 (fun w' => Step (· = b) W6 w' ∧ ∃ o', Bx w' base b 95 (cutR bn g o' m) Vx sM) (fun w' => Bx w' base b 95 (cutR bn g ov m) Vx sM)
          (fun w1 w2 => Step (· = b) w1 w2 ∧ Bx w2 base b 95 (cutR bn g (ov - mm) m) Vx sM) 12 [
          fun g' _ => g' 28 = .pointer (some ⟨b, 0, none⟩), fun g' _ => g' 29 = .pointer (some ⟨b, 0, none⟩), fun g' _ => g' 30 = .pointer (some ⟨b, 0, none⟩), fun g' _ => g' 31 = .pointer (some ⟨b, 3, none⟩),
          fun g' _ => g' 32 = .slice (some ⟨gm, 0, none⟩) s.moves.length cm, fun g' _ => g' 33 = .int .i64 x, fun g' _ => g' 34 = .pointer (some ⟨gm, x * 4, none⟩), fun g' _ => g' 35 = .pointer (some ⟨gm, x * 4 + 3, none⟩),
          fun g' _ => g' 36 = .int .i64 n0, fun g' _ => g' 37 = .pointer (some ⟨b, 0, none⟩), fun g' _ => g' 38 = .pointer (some ⟨X, 3, none⟩), fun g' _ => g' 39 = .int .i64 n0,
          fun g' w' => g' 40 = .int .i64 mm ∧ Bx w' base b 95 (cutR bn g (ov - mm) m) Vx sM, fun g' _ => g' 41 = .int .i64 (n0 - mm), fun g' _ => g' 42 = .pointer (some ⟨gm, x * 4, none⟩), fun g' _ => g' 43 = .pointer (some ⟨gm, x * 4 + 3, none⟩)] (by kernel_rfl) rfl (by kernel_rfl)
          (fun w1 w2 h hb => ⟨h.1.trans (.of_below hb), h.2.elim fun o' h => ⟨o', h.below hb⟩⟩) (fun w1 w2 h h' => ⟨h.1.trans h'.1, _, h'.2⟩) (fun w1 w2 h hb => h.below hb) ⟨.of_below (Below.refl _ _).drew, _, hbx6.out.drew⟩ hbx6.out.drew ?c5ops (fun f w9 hT hR => ?c5fin))
        case c5ops =>
          simp only [List.take_succ_cons, List.take_zero]
          refine OpsBrk.cons (OpBrk.val rfl rfl (by decide) (fun gq w' hT ho hd => ?_)) ?_
          · have e1 := ho 1 rfl
            have e2 := (hT.1.cell (p := ⟨w.heap.size, 0, none⟩) l06 (by show ¬ w.heap.size = b; omega)).trans y0
            go_simp
          refine OpsBrk.cons (OpBrk.val rfl rfl (by decide) (fun gq w' hT ho hd => ?_)) ?_
          · have e1 : gq 28 = .pointer (some ⟨b, 0, none⟩) := hd ⟨0, .data⟩ (by simp) rfl (by decide)
            go_simp
          refine OpsBrk.cons (OpBrk.val rfl rfl (by decide) (fun gq w' hT ho hd => ?_)) ?_
          · have e1 : gq 29 = .pointer (some ⟨b, 0, none⟩) := hd ⟨1, .data⟩ (by simp) rfl (by decide)
            go_simp
          refine OpsBrk.cons (OpBrk.val rfl rfl (by decide) (fun gq w' hT ho hd => ?_)) ?_
          · have e1 : gq 30 = .pointer (some ⟨b, 0, none⟩) := hd ⟨2, .data⟩ (by simp) rfl (by decide)
            go_simp
          refine OpsBrk.cons (OpBrk.val rfl rfl (by decide) (fun gq w' hT ho hd => ?_)) ?_
          · have e1 : gq 31 = .pointer (some ⟨b, 3, none⟩) := hd ⟨3, .data⟩ (by simp) rfl (by decide)
            obtain ⟨o', hx'⟩ := hT.2
            have e2 := hc3'.out w' o' hx'
            go_simp
          refine OpsBrk.cons (OpBrk.val rfl rfl (by decide) (fun gq w' hT ho hd => ?_)) ?_
          · have e1 := ho 2 rfl
            go_simp
          refine OpsBrk.cons (OpBrk.val rfl rfl (by decide) (fun gq w' hT ho hd => ?_)) ?_
          · have e1 : gq 32 = .slice (some ⟨gm, 0, none⟩) s.moves.length cm := hd ⟨4, .data⟩ (by simp) rfl (by decide)
            have e2 : gq 33 = .int .i64 x := hd ⟨5, .data⟩ (by simp) rfl (by decide)
            go_simp
          refine OpsBrk.cons (OpBrk.val rfl rfl (by decide) (fun gq w' hT ho hd => ?_)) ?_
          · have e1 : gq 34 = .pointer (some ⟨gm, x * 4, none⟩) := hd ⟨6, .data⟩ (by simp) rfl (by decide)
            go_simp
          refine OpsBrk.cons (OpBrk.val rfl rfl (by decide) (fun gq w' hT ho hd => ?_)) ?_
          · have e1 : gq 35 = .pointer (some ⟨gm, x * 4 + 3, none⟩) := hd ⟨7, .data⟩ (by simp) rfl (by decide)
            have e2 := (hT.1.cell (p := ⟨gm, x * 4 + 3, none⟩) hbm.lt hgm).trans p3
            go_simp
          refine OpsBrk.cons (OpBrk.val rfl rfl (by decide) (fun gq w' hT ho hd => ?_)) ?_
          · have e1 := ho 1 rfl
            have e2 := (hT.1.cell (p := ⟨w.heap.size, 0, none⟩) l06 (by show ¬ w.heap.size = b; omega)).trans y0
            go_simp
          refine OpsBrk.cons (OpBrk.val rfl rfl (by decide) (fun gq w' hT ho hd => ?_)) ?_
          · have e1 := ho 3 rfl
            go_simp
          refine OpsBrk.cons (OpBrk.val rfl rfl (by decide) (fun gq w' hT ho hd => ?_)) ?_
          · have e1 : gq 38 = .pointer (some ⟨X, 3, none⟩) := hd ⟨10, .data⟩ (by simp) rfl (by decide)
            have e2 := (hT.1.cell (p := ⟨X, 3, none⟩) lX6 (by show ¬ X = b; omega)).trans x3
            go_simp
          refine OpsBrk.cons ⟨fun gq w1 w2 h hb => ⟨h.1, h.2.below hb⟩, fun hne => absurd rfl hne, fun gq gq' w1 he h => ?_, fun gq w' hT hJ ho hd => ?_⟩ ?_
          · have e61 := he 12 _ 40 (.self 12) rfl rfl
            exact ⟨e61.symm.trans h.1, h.2⟩
          · have e1 : gq 37 = .pointer (some ⟨b, 0, none⟩) := hd ⟨9, .data⟩ (by simp) rfl (by decide)
            have e2 : gq 39 = .int .i64 n0 := hd ⟨11, .data⟩ (by simp) rfl (by decide)
            have hcall := ctLess w' n0 (hJ rfl) (by omega) (by omega)
            rw [hmm'.out] at hcall
            unfold OpRel
            go_simp
            refine hcall.mono ?_
            rintro e w'' ⟨rfl, hx2, hs2⟩
            refine ⟨_, rfl, ⟨?_, hx2⟩, hs2, hx2⟩
            simp [updO, upd]
          refine OpsBrk.cons (OpBrk.val rfl rfl (by decide) (fun gq w' hT ho hd => ?_)) ?_
          · have e1 : gq 36 = .int .i64 n0 := hd ⟨8, .data⟩ (by simp) rfl (by decide)
            have e2 : gq 40 = .int .i64 mm := (show gq 40 = .int .i64 mm ∧ _ from hd ⟨12, .data⟩ (by simp) rfl (by decide)).1
            go_simp
          refine OpsBrk.cons (OpBrk.val rfl rfl (by decide) (fun gq w' hT ho hd => ?_)) ?_
          · have e1 : gq 32 = .slice (some ⟨gm, 0, none⟩) s.moves.length cm := hd ⟨4, .data⟩ (by simp) rfl (by decide)
            have e2 : gq 33 = .int .i64 x := hd ⟨5, .data⟩ (by simp) rfl (by decide)
            go_simp
          refine OpsBrk.cons (OpBrk.val rfl rfl (by decide) (fun gq w' hT ho hd => ?_)) ?_
          · have e1 : gq 42 = .pointer (some ⟨gm, x * 4, none⟩) := hd ⟨14, .data⟩ (by simp) rfl (by decide)
            go_simp
          exact OpsBrk.nil
        case c5fin =>
          obtain ⟨r28, r29, r30, r31, r32, r33, r34, r35, r36, r37, r38, r39, ⟨r40, hbx9⟩, r41, r42, r43, _⟩ := hR
          simp only [fillA, fillT, List.take_succ_cons, List.take_zero, List.drop_succ_cons, List.drop_zero, List.filterMap_cons, List.filterMap_nil, List.foldl_cons, List.foldl_nil, List.setIfInBounds_toArray, List.set_cons_zero, List.set_cons_succ, r28, r29, r30, r31, r32, r33, r34, r35, r36, r37, r38, r39, r40, r41, r42, r43]
          clear r28 r29 r30 r31 r32 r33 r34 r35 r36 r37 r38 r39 r40 r41 r42 r43
          have hbm9 := hT.1.blk hbm hgm
          have p39 := (hT.1.cell (p := ⟨gm, x * 4 + 3, none⟩) hbm.lt hgm).trans p3
          refine wpList_store_int rfl (.tmp 43) (.tmp 41) rfl rfl gm (x * 4 + 3) _ (n0 - mm) rfl rfl p39 (hbm9.frozen _) (fun w10 hw10 => ?_)
          refine wpList_nil ?_
          have hO9 : OwnSt w9 base ⟨k0, k1, k2, .slice (some ⟨gm, 0, none⟩) s.moves.length cm, k4, k5, k6, k7, k8⟩ { s with moves := M } := by
            have := hbx9.own
            rw [hVx'.out, hsM'.out] at this
            exact this
          obtain ⟨o1, hg1⟩ := Own.store hO9.moves (fun _ => rfl) (i := x) (show x < M.length by omega) (show 3 < 4 by omega) (y := { s.moves[x] with n := n0 - mm }) (u := .int .i64 (n0 - mm)) (by
            have e : M[x]'(by omega) = s.moves[x] := by rw [← hML, moveAt_eq (by omega)]
            show cMove _ = (cMove (M[x]'(by omega))).set 3 _
            rw [e]
            rfl)
          rw [hw10] at o1 hg1
          have hbx10 : Bx w10 base b 95 (cutR bn g (ov - mm) m) ⟨k0, k1, k2, .slice (some ⟨gm, 0, none⟩) s.moves.length cm, k4, k5, k6, k7, k8⟩ { s with moves := M.set x { s.moves[x] with n := n0 - mm } } := by
            have hb9 := hbx9.box
            rw [hVx'.out] at hb9
            exact ⟨hb9.grown hg1 (by intro he; injection he with he; exact hgm he.symm), hO9.wroteMoves hg1 o1, hbx9.ty⟩
          have hst10 : Step (fun j => j = b ∨ (Value.slice (some ⟨gm, 0, none⟩) s.moves.length cm).ownBlock = some j) W6 w10 :=
            (hT.1.mono fun j hj => .inl hj).trans (Step.of_grown (ks := fun j => j = b ∨ (Value.slice (some ⟨gm, 0, none⟩) s.moves.length cm).ownBlock = some j) hg1 fun j hj => .inr (by rw [← hj]; rfl))
          have hfin : KeepsFrom w2.heap.size W w10 ∧ (k + 1 ≤ s.moves.length ∧ CutI w base b (cutR bn g ((mvC bn g).mid s.moves v x).2 m) ⟨k0, k1, k2, .slice (some ⟨gm, 0, none⟩) s.moves.length cm, k4, k5, k6, k7, k8⟩ { s with moves := ((mvC bn g).mid s.moves v x).1 } (Value.slice (some ⟨gm, 0, none⟩) s.moves.length cm).ownBlock L w10) := by
            refine ⟨(keeps_below hb6).trans ((keeps_step hT.1 fun j hj => by subst hj; exact blk_cells hbx6.out.box).trans (keeps_cells hg1 fun r e => by injection e with e; subst e; exact blk_cells hbm9)), by omega, ?_⟩
            rw [hst2.out, hmm'.out]
            exact hI6.out.step hbx10 hst10 hLx.out
          exact hfin
      · have t2 : (s.moves[x].good == (g : Int)) = false := by simpa using h2
        have hst := Lib.hid (hstay (by
          cases hq : (mvC bn g).is s.moves[x]
          · rfl
          · exact absurd (mv_is.1 hq).2 h2))
        clear hstep hstay h1 h2
        gi_wp2_with fail
        refine wpIn_region_wld (by kernel_rfl) (by kernel_rfl) (by kernel_rfl) ?_
        repeat (go_big_quiet_step (fail))
        refine wpQuiet_nil ?_
        intro W6 hw6
        have hb6 := below_of_cls hw6
        clear hw6
        clear x0 x1 y0 z1 z2 q1 q2 q3 t1 t2
        gi_wp2_with fail
        exact ⟨keeps_below hb6, by omega, by rw [hst.out]; exact hI'.out.below hb6⟩
    · have t1 : (s.moves[x].src == (bn : Int)) = false := by simpa using h1
      have hst := Lib.hid (hstay (by
          cases hq : (mvC bn g).is s.moves[x]
          · rfl
          · exact absurd (mv_is.1 hq).1 h1))
      clear hstep hstay h1
      gi_wp2_with fail
      refine wpIn_region_wld (by kernel_rfl) (by kernel_rfl) (by kernel_rfl) ?_
      repeat (go_big_quiet_step (fail))
      refine wpQuiet_nil ?_
      intro W6 hw6
      have hb6 := below_of_cls hw6
      clear hw6
      clear x0 x1 y0 z1 z2 q1 q2 q3 t1
      gi_wp2_with fail
      exact ⟨keeps_below hb6, by omega, by rw [hst.out]; exact hI'.out.below hb6⟩
  case hdone =>
    intro D W hD ⟨hk, hI⟩ hWd
    rw [Nat.sub_self] at hI
    have hmv : (mvC bn g).rest s.moves v = ((mvC bn g).mid s.moves v 0).1.filter fun x => !(x.n == 0) := by
      rw [Cutter.mid_zero]
      unfold Cutter.rest
      refine congrArg (fun f => List.filter f ((mvC bn g).cut s.moves v).1) (funext fun x => ?_)
      show (!decide (x.n = 0)) = !(x.n == 0)
      by_cases hx : x.n = 0 <;> simp [hx]
    have hml := Cutter.mid_len (C := mvC bn g) s.moves v 0
    obtain ⟨M, ov, hmid⟩ : ∃ M ov, (mvC bn g).mid s.moves v 0 = (M, ov) := ⟨_, _, rfl⟩
    rw [hmid] at hI hml hmv
    simp only at hI hml hmv
    have hmv' := Lib.hid hmv
    have hmid' := Lib.hid hmid
    clear hmv hmid
    have hI' := Lib.hid hI
    have y0 : W.cell? ⟨w.heap.size, 0, none⟩ = some (.pointer (some ⟨b, 0, none⟩)) := Boxed.cell (show Boxed W w.heap.size 91 (.pointer (some ⟨b, 0, none⟩)) from hI.held (w.heap.size, Obj.cells #[.pointer (some ⟨b, 0, none⟩)] 91 (0, 0)) (by rw [hL]; simp))
    have l0 := hI.held.lt (w.heap.size, Obj.cells #[.pointer (some ⟨b, 0, none⟩)] 91 (0, 0)) (by rw [hL]; simp)
    simp only at l0
    have c3 := hI.bx.cells.2.2.2.1
    simp only at c3
    have hnb := Lib.hid (show ∀ j, (Value.slice Am s.moves.length cm).ownBlock = some j → j ≠ b ∧ j < w.heap.size from fun j hj => by
      refine ⟨fun he => ?_, (hB'.out.own.moves.size j hj).2⟩
      rcases hI.bx.own.moves.notBox hI.bx.box (by decide) with h | h
      · simp only at h; rw [h] at hj; cases hj
      · exact h (by rw [← he]; exact hj))
    have lb : b < W.heap.size := hI.bx.lt
    have hLD : D ≠ b := by omega
    clear hI
    gi_wp2_with fail
    have hmlen := Lib.hid hml
    clear hml
    refine wp_region_opsB 10 (fun w' => Step (fun j => (Value.slice Am s.moves.length cm).ownBlock = some j) W w') (fun w' => Below W.heap.size W w') (fun w1 w2 => Step (fun j => (Value.slice Am s.moves.length cm).ownBlock = some j) w1 w2) 6 [
      fun g' _ => g' 44 = .pointer (some ⟨b, 0, none⟩), fun g' _ => g' 45 = .pointer (some ⟨b, 0, none⟩), fun g' _ => g' 46 = .pointer (some ⟨b, 0, none⟩), fun g' _ => g' 47 = .pointer (some ⟨b, 0, none⟩), fun g' _ => g' 48 = .pointer (some ⟨b, 3, none⟩),
      fun g' _ => g' 49 = .slice Am s.moves.length cm, fun g' w' => Own cMove 4 48 w' base (g' 50) (M.filter fun x => !(x.n == 0)),
      fun g' _ => g' 51 = .pointer (some ⟨b, 0, none⟩), fun g' _ => g' 52 = .pointer (some ⟨b, 0, none⟩), fun g' _ => g' 53 = .pointer (some ⟨b, 3, none⟩)] (by kernel_rfl) (by kernel_rfl) rfl (by kernel_rfl)
      (fun w1 w2 h hb => h.trans (.of_below hb)) (fun w1 w2 h h' => h.trans h') (fun w1 w2 h hb => h.trans (hb.mono h.size)) (.of_below (Below.refl _ _).drew) (Below.refl _ _).drew ?d6ops (fun f w9 hT hR => ?d6fin)
    case d6ops =>
      simp only [List.take_succ_cons, List.take_zero]
      refine OpsBrk.cons (OpBrk.val rfl rfl (by decide) (fun gq w' hT ho hd => ?_)) ?_
      · have e1 := ho 1 rfl
        have e2 := (hT.cell (p := ⟨w.heap.size, 0, none⟩) l0 (fun h => by have := (hnb.out _ h).2; simp only at this; omega)).trans y0
        go_simp
      refine OpsBrk.cons (OpBrk.val rfl rfl (by decide) (fun gq w' hT ho hd => ?_)) ?_
      · have e1 := ho 1 rfl
        have e2 := (hT.cell (p := ⟨w.heap.size, 0, none⟩) l0 (fun h => by have := (hnb.out _ h).2; simp only at this; omega)).trans y0
        go_simp
      refine OpsBrk.cons (OpBrk.val rfl rfl (by decide) (fun gq w' hT ho hd => ?_)) ?_
      · have e1 : gq 45 = .pointer (some ⟨b, 0, none⟩) := hd ⟨1, .data⟩ (by simp) rfl (by decide)
        go_simp
      refine OpsBrk.cons (OpBrk.val rfl rfl (by decide) (fun gq w' hT ho hd => ?_)) ?_
      · have e1 : gq 46 = .pointer (some ⟨b, 0, none⟩) := hd ⟨2, .data⟩ (by simp) rfl (by decide)
        go_simp
      refine OpsBrk.cons (OpBrk.val rfl rfl (by decide) (fun gq w' hT ho hd => ?_)) ?_
      · have e1 : gq 47 = .pointer (some ⟨b, 0, none⟩) := hd ⟨3, .data⟩ (by simp) rfl (by decide)
        go_simp
      refine OpsBrk.cons (OpBrk.val rfl rfl (by decide) (fun gq w' hT ho hd => ?_)) ?_
      · have e1 : gq 48 = .pointer (some ⟨b, 3, none⟩) := hd ⟨4, .data⟩ (by simp) rfl (by decide)
        have e2 := (hT.cell (p := ⟨b, 3, none⟩) lb (fun h => (hnb.out _ h).1 rfl)).trans c3
        go_simp
      refine OpsBrk.cons ⟨fun gq w1 w2 h hb => h.below hb, fun hne => absurd rfl hne, fun gq gq' w1 he h => ?_, fun gq w' hT hJ ho hd => ?_⟩ ?_
      · have e61 := he 6 _ 50 (.self 6) rfl rfl
        simp only [e61] at h
        exact h
      · have e1 : gq 49 = .slice Am s.moves.length cm := hd ⟨5, .data⟩ (by simp) rfl (by decide)
        have hbel := hJ rfl
        have hcall := delFuncMove w' base (.slice Am s.moves.length cm) M 117 #[] (fun x => x.n == 0) entersMv (hI'.out.below hbel).bx.own.moves (by have := hmlen.out; omega) (fun k _ V _ => mvZero V _)
        unfold OpRel
        go_simp
        refine hcall.mono ?_
        rintro e w'' ⟨v', rfl, ho', hs', _⟩
        refine ⟨_, rfl, ?_, hs'⟩
        simpa [updO, upd] using ho'
      refine OpsBrk.cons (OpBrk.val rfl rfl (by decide) (fun gq w' hT ho hd => ?_)) ?_
      · have e1 : gq 44 = .pointer (some ⟨b, 0, none⟩) := hd ⟨0, .data⟩ (by simp) rfl (by decide)
        go_simp
      refine OpsBrk.cons (OpBrk.val rfl rfl (by decide) (fun gq w' hT ho hd => ?_)) ?_
      · have e1 : gq 51 = .pointer (some ⟨b, 0, none⟩) := hd ⟨7, .data⟩ (by simp) rfl (by decide)
        go_simp
      refine OpsBrk.cons (OpBrk.val rfl rfl (by decide) (fun gq w' hT ho hd => ?_)) ?_
      · have e1 : gq 52 = .pointer (some ⟨b, 0, none⟩) := hd ⟨8, .data⟩ (by simp) rfl (by decide)
        go_simp
      exact OpsBrk.nil
    case d6fin =>
      obtain ⟨r44, r45, r46, r47, r48, r49, ho9, r51, r52, r53, _⟩ := hR
      obtain ⟨A9, c9, hv9⟩ := ho9.isSlice
      rw [hv9] at ho9
      simp only [fillA, fillT, List.take_succ_cons, List.take_zero, List.drop_succ_cons, List.drop_zero, List.filterMap_cons, List.filterMap_nil, List.foldl_cons, List.foldl_nil, List.setIfInBounds_toArray, List.set_cons_zero, List.set_cons_succ, r44, r45, r46, r47, r48, r49, hv9, r51, r52, r53]
      clear r44 r45 r46 r47 r48 r49 r51 r52 r53 hv9
      have hO9 : OwnSt w9 base ⟨k0, k1, k2, .slice A9 (M.filter fun x => !(x.n == 0)).length c9, k4, k5, k6, k7, k8⟩ { s with moves := M.filter fun x => !(x.n == 0) } := hI'.out.bx.own.stepMoves hT ho9
      have hb9 : Blk w9 b 95 (SV.cells ⟨k0, k1, k2, .slice Am s.moves.length cm, k4, k5, k6, k7, k8⟩ ++ cutR bn g ov m) := hT.blk hI'.out.bx.box (fun h => (hnb.out _ h).1 rfl)
      refine wp_st_moves' rfl (.tmp 53) (.tmp 50) rfl rfl A9 (M.filter fun x => !(x.n == 0)).length c9 (V := ⟨k0, k1, k2, .slice Am s.moves.length cm, k4, k5, k6, k7, k8⟩) (cs := cutR bn g ov m) (b := b) hb9 hO9 boxTC rfl rfl rfl (fun w10 hx10 hst10 => ?_)
      refine wpList_nil ?_
      have hD9 : w9.heap[D]? = some (.deferred (some [])) := hT.heap hWd (fun h => by have := (hnb.out _ h).2; omega)
      have hD10 := hst10.heap hD9 hLD
      have hs10 : Step (fun j => j = b ∨ (Value.slice Am s.moves.length cm).ownBlock = some j) w w10 := hI'.out.st.trans ((hT.mono fun j h => .inr h).trans (hst10.mono fun j h => .inl h))
      have hx10' := Lib.hid hx10
      clear hx10 hst10 hO9 hb9 hT ho9
      go_wp2_with fail
      have hgD := grownBy_putObj' w10 D (.deferred none)
      have hx11 := hx10'.out.noncell hgD (fun r e => by cases e; exact ⟨_, hD10, rfl⟩)
      refine ⟨by simp, .inl ⟨_, _, rfl, run_takeDeferred hD10, ?_⟩⟩
      refine ⟨.tuple #[], results_none rfl _ _ _, rfl, ⟨k0, k1, k2, .slice A9 (M.filter fun x => !(x.n == 0)).length c9, k4, k5, k6, k7, k8⟩, rfl, ?_, hs10.trans' (Step.of_grown (ks := fun k => some D = some k) hgD fun k e => e) fun k hk e => ?_⟩
      · rw [hmid'.out, hmv'.out]
        exact hx11
      · injection e with e
        omega
end Wh
namespace Wh
open Go Go.RowKit Go.Shelf Go.Proofs Go.Maps

abbrev keyL (x : Int) : Lit := .int .i64 x
theorem keyL_is (x : Int) : WideAt.IsKeyLit (keyL x) := trivial
/-- What the map says of the holds from place j on. -/
structure CutMap (s : State) (b g : Nat) (l : List Hold) (j : Nat) (D : DataW Unit) : Prop where
  map : IsMap D
  keys : ∀ x : Int, has D (keyL x) = true ↔ ∃ i, ∃ hi : i < s.holds.length, j ≤ i ∧ (hdC s b g).is s.holds[i] = true ∧ x = s.holds[i].order * 3 + s.holds[i].line
  vals : ∀ o k : Nat, k < 3 → has D (keyL ((o : Int) * 3 + k)) = true → ∀ z, D.atKey (keyL ((o : Int) * 3 + k)) z = .lit (.int .i64 (keptAt s.holds o k b - keptAt l o k b))
section
variable {s : State} {b g : Nat} {l : List Hold} {j : Nat} {D : DataW Unit}
theorem CutMap.start : CutMap s b g s.holds s.holds.length (.map []) := by
  refine ⟨⟨_, rfl⟩, fun x => ⟨fun h => (by cases h), ?_⟩, fun o k _ h => (by cases h)⟩
  rintro ⟨i, hi, hj, _⟩
  omega
theorem CutMap.congr {l' : List Hold} (h : CutMap s b g l j D) (he : ∀ o k : Nat, keptAt l' o k b = keptAt l o k b) : CutMap s b g l' j D := ⟨h.map, h.keys, fun o k hk hh z => by rw [h.vals o k hk hh z, he]⟩
theorem CutMap.skip (h : CutMap s b g l (j + 1) D) (hj : j < s.holds.length) (hn : (hdC s b g).is s.holds[j] = false) : CutMap s b g l j D := by
  refine ⟨h.map, fun x => (h.keys x).trans ⟨?_, ?_⟩, h.vals⟩
  · rintro ⟨i, hi, h1, h2, h3⟩
    exact ⟨i, hi, by omega, h2, h3⟩
  · rintro ⟨i, hi, h1, h2, h3⟩
    refine ⟨i, hi, ?_, h2, h3⟩
    rcases Nat.lt_or_ge j i with h4 | h4
    · omega
    · obtain rfl : j = i := by omega
      rw [hn] at h2
      cases h2
theorem CutMap.fresh (h : CutMap s b g l (j + 1) D) (hok : holdsOk s.holds = true) (hj : j < s.holds.length) (hi : (hdC s b g).is s.holds[j] = true) : has D (keyL (s.holds[j].order * 3 + s.holds[j].line)) = false := by
  cases hh : has D (keyL (s.holds[j].order * 3 + s.holds[j].line))
  · rfl
  · obtain ⟨i, hil, h1, h2, h3⟩ := (h.keys _).1 hh
    have hf := (holdsOk_iff.1 hok).1
    have f1 := (fine_iff.1 (hf _ (List.getElem_mem hj))).1
    have f2 := (fine_iff.1 (hf _ (List.getElem_mem hil))).1
    unfold keyOk at f1 f2
    have b1 := (hd_is.1 hi).1
    have b2 := (hd_is.1 h2).1
    have hnd := ok_nodup hok
    have he : hkey s.holds[i] = hkey s.holds[j] := by
      unfold hkey
      simp only [Prod.mk.injEq]
      omega
    have := (List.getElem_inj (xs := s.holds.map hkey) (i := i) (j := j) (h₀ := by simpa using hil) (h₁ := by simpa using hj) hnd).1 (by simpa using he)
    omega
theorem CutMap.put {o k : Nat} {m : Int} (h : CutMap s b g l (j + 1) D) (hok : holdsOk s.holds = true) (hj : j < s.holds.length) (hi : (hdC s b g).is s.holds[j] = true) (ho : s.holds[j].order = o) (hk : s.holds[j].line = k) (hk3 : k < 3)
    (hlk : l.map hkey = s.holds.map hkey) (hlj : j < l.length) (hl : l[j] = s.holds[j]) : CutMap s b g (l.set j { s.holds[j] with n := s.holds[j].n - m }) j (D.put (keyL ((o : Int) * 3 + k)) (.lit (.int .i64 m))) := by
  have hb := (hd_is.1 hi).1
  have hnd := ok_nodup hok
  have hnl : (l.map hkey).Nodup := by rw [hlk]; exact hnd
  have hka := keptAt_at hnd hj
  rw [ho, hk, hb] at hka
  have hset : ∀ o' k' : Nat, keptAt (l.set j { s.holds[j] with n := s.holds[j].n - m }) o' k' b = if o' = o ∧ k' = k then s.holds[j].n - m else keptAt l o' k' b := fun o' k' => by
    have := keptAt_set hnl hlj (s.holds[j].n - m) o' k' b
    rw [hl] at this
    rw [this, ho, hk, hb]
    by_cases hh : o' = o ∧ k' = k
    · rw [if_pos hh, if_pos ⟨by omega, by omega, rfl⟩]
    · rw [if_neg hh, if_neg (fun h2 => hh ⟨by omega, by omega⟩)]
  have hne : ∀ x : Int, x ≠ (o : Int) * 3 + k → keyL x ≠ keyL ((o : Int) * 3 + k) := fun x hx he => by
    injection he with _ he
    exact hx he
  refine ⟨IsMap.put h.map _ _, fun x => ?_, fun o' k' hk' hh z => ?_⟩
  · by_cases hx : x = (o : Int) * 3 + k
    · subst hx
      rw [has_put_same h.map (keyL_is _)]
      exact ⟨fun _ => ⟨j, hj, Nat.le_refl _, hi, by rw [ho, hk]⟩, fun _ => rfl⟩
    · rw [has_put_other (hne x hx), h.keys x]
      constructor
      · rintro ⟨i, hil, h1, h2, h3⟩
        exact ⟨i, hil, by omega, h2, h3⟩
      · rintro ⟨i, hil, h1, h2, h3⟩
        refine ⟨i, hil, ?_, h2, h3⟩
        rcases Nat.lt_or_ge j i with h4 | h4
        · omega
        · obtain rfl : j = i := by omega
          rw [ho, hk] at h3
          exact absurd h3 hx
  · by_cases hx : (o' : Int) * 3 + k' = (o : Int) * 3 + k
    · obtain rfl : o' = o := by omega
      obtain rfl : k' = k := by omega
      rw [atKey_put_same h.map (keyL_is _), hset, if_pos ⟨rfl, rfl⟩, hka]
      congr 3
      omega
    · rw [has_put_other (hne _ hx)] at hh
      rw [atKey_put_other (hne _ hx), h.vals o' k' hk' hh, hset, if_neg (fun h2 => hx (by rw [h2.1, h2.2]))]
end
/-- The blocks that counting writes. -/
def ksH (b mb : Nat) (V : SV) (j : Nat) : Prop := j = b ∨ V.holds.ownBlock = some j ∨ j = mb ∨ ∃ o, o < V.lines.length ∧ (V.line o).ownBlock = some j
structure CutJ (w : World) (base b mb : Nat) (V : SV) (s : State) (bn g : Nat) (ov : Int) (l : List Hold) (j : Nat) (L : List (Nat × Obj)) (W : World) : Prop where
  bx : Bx W base b 95 (cutR bn g ov (.map (some mb))) V (hdS s bn l)
  held : HeldDs L W
  st : Step (ksH b mb V) w W
  mp : ∃ D, CutMap s bn g l j D ∧ W.ownsMap Tryz.prog 3 (plainElem Tryz.prog 3) mb (s.holds.length - j) D
section
variable {w W W' : World} {base b mb bn g j : Nat} {V : SV} {s : State} {ov : Int} {l : List Hold} {L : List (Nat × Obj)}
theorem CutJ.own {B : Nat} (hL : ∀ x ∈ L, x.1 < B) (hB : w.heap.size ≤ B) (hmb : mb < w.heap.size) {rw_ : Option Nat} (hs : CutJ w base b mb V s bn g ov l j L W)
    (hg : W.grownBy W' rw_) (hr : ∀ r, rw_ = some r → B ≤ r ∧ ∃ o : Obj, W.heap[r]? = some o ∧ o.isCells = false) : CutJ w base b mb V s bn g ov l j L W' :=
  ⟨hs.bx.noncell hg fun r e => (hr r e).2, HeldDs.from_ hL () W W' rw_ hs.held hg hr, hs.st.trans' (Step.of_grown (ks := fun k => rw_ = some k) hg fun k e => e) fun k hk e => by have := (hr k e).1; omega,
    hs.mp.elim fun D h => ⟨D, h.1, h.2.kept hg fun he => by have := (hr mb he.symm).1; omega⟩⟩
theorem CutJ.below (h : CutJ w base b mb V s bn g ov l j L W) (hb : Below W.heap.size W W') : CutJ w base b mb V s bn g ov l j L W' :=
  ⟨h.bx.below hb, fun x hx => (hb.block x.1 (h.held.lt x hx)).trans (h.held x hx), h.st.trans (.of_below hb), h.mp.elim fun D h => ⟨D, h.1, h.2.kept (grown_of_below (row := none) hb) (by simp)⟩⟩
theorem CutJ.skip (h : CutJ w base b mb V s bn g ov l (j + 1) L W) (hj : j < s.holds.length) (hn : (hdC s bn g).is s.holds[j] = false) : CutJ w base b mb V s bn g ov l j L W :=
  ⟨h.bx, h.held, h.st, h.mp.elim fun D h => ⟨D, h.1.skip hj hn, h.2.mono (by omega)⟩⟩
end
theorem ownsMap_step {ks : Nat → Prop} {w w' : World} {k : TypeId} {R : Value → Option (DataW Unit × List MemPlace)} {mb n : Nat} {D : DataW Unit} (h : w.ownsMap Tryz.prog k R mb n D) (hs : Step ks w w') (hn : ¬ ks mb) : w'.ownsMap Tryz.prog k R mb n D := by
  obtain ⟨es, clock, hb, F, h1, h2⟩ := h
  exact ⟨es, clock, hs.heap hb hn, F, h1, h2⟩
theorem ownsMap_ne {w : World} {k : TypeId} {R : Value → Option (DataW Unit × List MemPlace)} {mb n g : Nat} {D : DataW Unit} {t : TypeId} {cur : List Value} (h : w.ownsMap Tryz.prog k R mb n D) (hb : Blk w g t cur) : mb ≠ g := fun he => by
  obtain ⟨es, clock, h1, _⟩ := h
  rw [he, show w.heap[g]? = _ from hb] at h1
  injection h1 with h1
  cases h1
theorem ownsMap_obj {w : World} {k : TypeId} {R : Value → Option (DataW Unit × List MemPlace)} {mb n : Nat} {D : DataW Unit} (h : w.ownsMap Tryz.prog k R mb n D) : ∃ o : Obj, w.heap[mb]? = some o ∧ o.isCells = false := by
  obtain ⟨es, clock, h1, _⟩ := h
  exact ⟨_, h1, rfl⟩
theorem keeps_of_step {B : Nat} {ks : Nat → Prop} {W W' : World} (h : Step ks W W') (hk : ∀ j, ks j → j < B) : KeepsFrom B W W' := ⟨h.size, fun k o hB hh _ => h.heap hh fun hj => by have := hk k hj; omega⟩
theorem lawInt : Keyed Tryz.prog 3 := int_keyed Tryz.underlying3
theorem zeroInt (w : World) : (zeroValue 3).run Tryz.prog w = .ok (.int .i64 0) w := by kernel_rfl
theorem keyInt {x : Int} (h : -9223372036854775808 ≤ x ∧ x ≤ 9223372036854775807) : keyOf Tryz.prog 3 (.int .i64 x) = some (keyL x) := keyOf_int_mk Tryz.underlying3 (WalkArith.wf_i64 h)
end Wh
