/- Texts of the claim, joined: LogA, StateN, StateO, RecvL. -/
import Derived.StillTailTactics
import Derived.Test.YtfhfkijmebhgmaaGreatQ13
import Derived.Test.YtfhfkijmebhgmaaGreatQ07
import Derived.Test.YtfhfkijmebhgmaaGreatQ22
import Derived.Test.YtfhfkijmebhgmaaGreatQ25
import Derived.Test.YtfhfkijmebhgmaaGreatQ24
import Derived.Test.YtfhfkijmebhgmaaGreatQ23
import Derived.Test.YtfhfkijmebhgmaaGreatQ03
import Derived.Test.YtfhfkijmebhgmaaGreatQ06
import Derived.Test.YtfhfkijmebhgmaaGreatQ08
import Derived.Test.YtfhfkijmebhgmaaGreatQ09
import Derived.Test.YtfhfkijmebhgmaaGreatQ26
import Derived.Test.YtfhfkijmebhgmaaGreatQ27
import Derived.Test.YtfhfkijmebhgmaaGreatQ28
import Derived.Test.YtfhfkijmebhgmaaGreatQ30
import Derived.Test.YtfhfkijmebhgmaaGreatQ35
import Derived.Test.YtfhfkijmebhgmaaGreatQ17
import Derived.Test.YtfhfkijmebhgmaaGreatQ18
import Derived.Test.YtfhfkijmebhgmaaGreatQ10
namespace Wh
open Go Go.RowKit Go.Shelf Go.Proofs
attribute [local go_sem] run_indexAt_letter evL_tmp evL_const evL_func

theorem boxesDeed (w : World) (p : Plan) (s : State) (Ab : Option Addr) (cb : Nat) (As : Option Addr) (cs : Nat) (A0 : Option Addr) (c0 : Nat) (A1 : Option Addr) (c1 : Nat) (A2 : Option Addr) (c2 : Nat) (A3 : Option Addr) (c3 : Nat) (A4 : Option Addr) (c4 : Nat) (A5 : Option Addr) (c5 : Nat) (A6 : Option Addr) (c6 : Nat) (kd xa xb xc xn : Int) (Al : Option Addr) (ln cl : Nat) :
    ∃ W0 : World, ((w.alloc (.cells #[.slice Ab p.bins.length cb, .slice As p.sizes.length cs] 25)).alloc (.cells #[.slice A0 s.on.length c0, .slice A1 s.orders.length c1, .slice A2 s.holds.length c2, .slice A3 s.moves.length c3, .slice A4 s.inn.length c4, .slice A5 s.out.length c5, .slice A6 s.fixed.length c6] 31)).alloc (.cells #[.int .i64 kd, .int .i64 xa, .int .i64 xb, .int .i64 xc, .int .i64 xn, .slice Al ln cl] 34) = W0 ∧ Below w.heap.size w W0 ∧ Hid (W0.heap.size = w.heap.size + 1 + 1 + 1) ∧
      Hid (∀ W, Below W0.heap.size W0 W → (W.cell? ⟨w.heap.size, 0, none⟩ = some (.slice Ab p.bins.length cb) ∧ W.cell? ⟨w.heap.size, 1, none⟩ = some (.slice As p.sizes.length cs)) ∧ W.cell? ⟨w.heap.size + 1, 0, none⟩ = some (.slice A0 s.on.length c0) ∧ W.cell? ⟨w.heap.size + 1, 1, none⟩ = some (.slice A1 s.orders.length c1) ∧ W.cell? ⟨w.heap.size + 1, 2, none⟩ = some (.slice A2 s.holds.length c2) ∧ W.cell? ⟨w.heap.size + 1, 3, none⟩ = some (.slice A3 s.moves.length c3) ∧ W.cell? ⟨w.heap.size + 1, 4, none⟩ = some (.slice A4 s.inn.length c4) ∧ W.cell? ⟨w.heap.size + 1, 5, none⟩ = some (.slice A5 s.out.length c5) ∧ W.cell? ⟨w.heap.size + 1, 6, none⟩ = some (.slice A6 s.fixed.length c6) ∧ w.heap.size + 1 < W.heap.size ∧ w.heap.size < W.heap.size) ∧
      Hid (∀ W, Below W0.heap.size W0 W → W.cell? ⟨w.heap.size + 1 + 1, 0, none⟩ = some (.int .i64 kd) ∧ W.cell? ⟨w.heap.size + 1 + 1, 1, none⟩ = some (.int .i64 xa) ∧ W.cell? ⟨w.heap.size + 1 + 1, 2, none⟩ = some (.int .i64 xb) ∧ W.cell? ⟨w.heap.size + 1 + 1, 3, none⟩ = some (.int .i64 xc) ∧ W.cell? ⟨w.heap.size + 1 + 1, 4, none⟩ = some (.int .i64 xn) ∧ W.cell? ⟨w.heap.size + 1 + 1, 5, none⟩ = some (.slice Al ln cl) ∧ w.heap.size + 1 + 1 < W.heap.size) := by
  obtain ⟨W1, e1, b1, s1, s2, s3, hK⟩ := boxesTwo w p s Ab cb As cs A0 c0 A1 c1 A2 c2 A3 c3 A4 c4 A5 c5 A6 c6
  rw [e1]
  have e3 : W1.heap.size = w.heap.size + 1 + 1 := s3
  have ha : Below W1.heap.size W1 (W1.alloc (.cells #[.int .i64 kd, .int .i64 xa, .int .i64 xb, .int .i64 xc, .int .i64 xn, .slice Al ln cl] 34)) := (Below.refl _ _).alloc (Nat.le_refl _) _
  have h1 : Blk (W1.alloc (.cells #[.int .i64 kd, .int .i64 xa, .int .i64 xb, .int .i64 xc, .int .i64 xn, .slice Al ln cl] 34)) W1.heap.size 34 [.int .i64 kd, .int .i64 xa, .int .i64 xb, .int .i64 xc, .int .i64 xn, .slice Al ln cl] := Blk.new _ _ _
  rw [e3] at h1
  refine ⟨_, rfl, b1.trans (ha.mono b1.size), Lib.hid (by simp [e3]), Lib.hid fun W hW => RowKit.Hid.out hK W (ha.trans (hW.mono ha.size)), Lib.hid fun W hW => ?_⟩
  have k := h1.below hW (by simp; omega)
  exact ⟨k.cell rfl, k.cell rfl, k.cell rfl, k.cell rfl, k.cell rfl, k.cell rfl, k.lt⟩
theorem boxesDo (w : World) (p : Plan) (s : State) (Ab : Option Addr) (cb : Nat) (As : Option Addr) (cs : Nat) (A0 : Option Addr) (c0 : Nat) (A1 : Option Addr) (c1 : Nat) (A2 : Option Addr) (c2 : Nat) (A3 : Option Addr) (c3 : Nat) (A4 : Option Addr) (c4 : Nat) (A5 : Option Addr) (c5 : Nat) (A6 : Option Addr) (c6 : Nat) (kd xa xb xc xn : Int) (Al : Option Addr) (ln cl : Nat) :
    ∃ W0 : World, (((w.alloc (.cells #[.slice Ab p.bins.length cb, .slice As p.sizes.length cs] 25)).alloc (.cells #[.slice A0 s.on.length c0, .slice A1 s.orders.length c1, .slice A2 s.holds.length c2, .slice A3 s.moves.length c3, .slice A4 s.inn.length c4, .slice A5 s.out.length c5, .slice A6 s.fixed.length c6] 31)).alloc (.cells #[.int .i64 kd, .int .i64 xa, .int .i64 xb, .int .i64 xc, .int .i64 xn, .slice Al ln cl] 34)).alloc (.cells #[.slice none 0 0, .slice none 0 0, .slice none 0 0, .slice none 0 0, .slice none 0 0, .slice none 0 0, .slice none 0 0] 31) = W0 ∧ Below w.heap.size w W0 ∧ Hid (W0.heap.size = w.heap.size + 1 + 1 + 1 + 1) ∧
      Hid (∀ W, Below W0.heap.size W0 W → (W.cell? ⟨w.heap.size, 0, none⟩ = some (.slice Ab p.bins.length cb) ∧ W.cell? ⟨w.heap.size, 1, none⟩ = some (.slice As p.sizes.length cs)) ∧ W.cell? ⟨w.heap.size + 1, 0, none⟩ = some (.slice A0 s.on.length c0) ∧ W.cell? ⟨w.heap.size + 1, 1, none⟩ = some (.slice A1 s.orders.length c1) ∧ W.cell? ⟨w.heap.size + 1, 2, none⟩ = some (.slice A2 s.holds.length c2) ∧ W.cell? ⟨w.heap.size + 1, 3, none⟩ = some (.slice A3 s.moves.length c3) ∧ W.cell? ⟨w.heap.size + 1, 4, none⟩ = some (.slice A4 s.inn.length c4) ∧ W.cell? ⟨w.heap.size + 1, 5, none⟩ = some (.slice A5 s.out.length c5) ∧ W.cell? ⟨w.heap.size + 1, 6, none⟩ = some (.slice A6 s.fixed.length c6) ∧ w.heap.size + 1 < W.heap.size ∧ w.heap.size < W.heap.size) ∧
      Hid (∀ W, Below W0.heap.size W0 W → W.cell? ⟨w.heap.size + 1 + 1, 0, none⟩ = some (.int .i64 kd) ∧ W.cell? ⟨w.heap.size + 1 + 1, 1, none⟩ = some (.int .i64 xa) ∧ W.cell? ⟨w.heap.size + 1 + 1, 2, none⟩ = some (.int .i64 xb) ∧ W.cell? ⟨w.heap.size + 1 + 1, 3, none⟩ = some (.int .i64 xc) ∧ W.cell? ⟨w.heap.size + 1 + 1, 4, none⟩ = some (.int .i64 xn) ∧ W.cell? ⟨w.heap.size + 1 + 1, 5, none⟩ = some (.slice Al ln cl) ∧ w.heap.size + 1 + 1 < W.heap.size) ∧ Hid (∀ W, Below W0.heap.size W0 W → BoxAt W (w.heap.size + 1 + 1 + 1) nilSV) := by
  obtain ⟨W1, e1, b1, s3, hK, hD⟩ := boxesDeed w p s Ab cb As cs A0 c0 A1 c1 A2 c2 A3 c3 A4 c4 A5 c5 A6 c6 kd xa xb xc xn Al ln cl
  rw [e1]
  have e3 : W1.heap.size = w.heap.size + 1 + 1 + 1 := s3
  have ha : Below W1.heap.size W1 (W1.alloc (.cells #[.slice none 0 0, .slice none 0 0, .slice none 0 0, .slice none 0 0, .slice none 0 0, .slice none 0 0, .slice none 0 0] 31)) := (Below.refl _ _).alloc (Nat.le_refl _) _
  have h1 : Blk (W1.alloc (.cells #[.slice none 0 0, .slice none 0 0, .slice none 0 0, .slice none 0 0, .slice none 0 0, .slice none 0 0, .slice none 0 0] 31)) W1.heap.size 31 [.slice none 0 0, .slice none 0 0, .slice none 0 0, .slice none 0 0, .slice none 0 0, .slice none 0 0, .slice none 0 0] := Blk.new _ _ _
  rw [e3] at h1
  exact ⟨_, rfl, b1.trans (ha.mono b1.size), Lib.hid (by simp [e3]), Lib.hid fun W hW => RowKit.Hid.out hK W (ha.trans (hW.mono ha.size)), Lib.hid fun W hW => RowKit.Hid.out hD W (ha.trans (hW.mono ha.size)), Lib.hid fun W hW => h1.below hW (by simp; omega)⟩


set_option maxHeartbeats 8000000 in
set_option maxRecDepth 100000 in
theorem lgDo (w : World) (v vs vd : Value) (p : Plan) (s : State) (x : Deed) (hp : PlanV w w.heap.size v p) (hv : StateV w w.heap.size vs s) (hd : DeedV w w.heap.size vd x) :
    Calls Tryz.prog 17 #[v, vs, vd] w (ActPost (act p s x) w) := by
  obtain ⟨Ab, cb, As, cs, rfl, hP', hBn, hSz, hlb, hls⟩ := openPl hp
  obtain ⟨A0, c0, A1, c1, A2, c2, A3, c3, A4, c4, A5, c5, A6, c6, rfl, hV, hN, hO, hH, hM, hI, hU, hX, hl0, hl1, hl2, hl3, hl4, hl5, hl6⟩ := openOne hv
  obtain ⟨Al, cl, rfl, hDV, hLn, hll⟩ := openDeed hd
  obtain ⟨kd, xa, xb, xc, xn, l⟩ := x
  simp only at hDV hLn hll ⊢
  clear hd hp hv

  by_cases k1 : kd = 1
  · rw [show act p s ⟨kd, xa, xb, xc, xn, l⟩ = receive p s xa xb xn by rw [k1]; rfl]
    have q1 : (kd == 1) = true := by simpa using k1
    clear k1
    go_enter Tryz.func17, Tryz.ntmps17
    go_wp2_with fail
    obtain ⟨W0, hW0, hb0, hsE, hK, hD, hR⟩ := boxesDo w p s Ab cb As cs A0 c0 A1 c1 A2 c2 A3 c3 A4 c4 A5 c5 A6 c6 kd xa xb xc xn Al l.length cl
    rw [hW0]
    clear hW0
    refine (recvReceive _ _ _ p s xa xb xn (hP'.out _ hb0) (hV.out _ hb0)).mono ?_
    rintro e W1 ⟨V1, rfl, ho1, hb1⟩
    have hbx9 := hR.out _ hb1
    have hone9 := OwnSt.one ho1
    go_wp2_with (refine wpList_store_state rfl (.tmp 6) (.tmp 21) rfl rfl (w.heap.size + 1 + 1 + 1) nilSV V1 hbx9 rfl rfl hone9 (fun w9 hbox9 hg9 => ?_))
    have hO9 := OwnSt.keptBy ho1 hg9 hbx9 (by decide) (by decide) (by decide) (by decide) (by decide) (by decide)
    have hB1 := hb0.trans (hb1.mono hb0.size)
    have hle := hb0.size
    obtain ⟨p0, p1, p2, p3, p4, p5, p6⟩ := BoxAt.cells hbox9
    have hfin9 : Below w.heap.size w w9 := Below.grown hB1 hg9 (Below.size hB1) (fun k hk => by injection hk with hk; omega)
    go_wp2_with fail
    exact bodyPost_ret (v := .tuple #[SV.val V1, .int .i64 (receive p s xa xb xn).2]) (by simp [results, Tryz.results17, go_sem, SV.val, p0, p1, p2, p3, p4, p5, p6]) rfl (show ActPost (receive p s xa xb xn) w _ w9 from ⟨V1, rfl, hO9.from_ hle, hfin9⟩)
  have q1 : (kd == 1) = false := by simpa using k1
  by_cases k2 : kd = 2
  · rw [show act p s ⟨kd, xa, xb, xc, xn, l⟩ = enter p s l by rw [k2]; rfl]
    have q2 : (kd == 2) = true := by simpa using k2
    clear k1 k2
    go_enter Tryz.func17, Tryz.ntmps17
    go_wp2_with fail
    obtain ⟨W0, hW0, hb0, hsE, hK, hD, hR⟩ := boxesDo w p s Ab cb As cs A0 c0 A1 c1 A2 c2 A3 c3 A4 c4 A5 c5 A6 c6 kd xa xb xc xn Al l.length cl
    rw [hW0]
    clear hW0
    refine (recvEnter _ _ _ _ p s l (hP'.out _ hb0) (hV.out _ hb0) (hLn.out _ hb0)).mono ?_
    rintro e W1 ⟨V1, rfl, ho1, hb1⟩
    have hbx9 := hR.out _ hb1
    have hone9 := OwnSt.one ho1
    go_wp2_with (refine wpList_store_state rfl (.tmp 6) (.tmp 30) rfl rfl (w.heap.size + 1 + 1 + 1) nilSV V1 hbx9 rfl rfl hone9 (fun w9 hbox9 hg9 => ?_))
    have hO9 := OwnSt.keptBy ho1 hg9 hbx9 (by decide) (by decide) (by decide) (by decide) (by decide) (by decide)
    have hB1 := hb0.trans (hb1.mono hb0.size)
    have hle := hb0.size
    obtain ⟨p0, p1, p2, p3, p4, p5, p6⟩ := BoxAt.cells hbox9
    have hfin9 : Below w.heap.size w w9 := Below.grown hB1 hg9 (Below.size hB1) (fun k hk => by injection hk with hk; omega)
    go_wp2_with fail
    exact bodyPost_ret (v := .tuple #[SV.val V1, .int .i64 (enter p s l).2]) (by simp [results, Tryz.results17, go_sem, SV.val, p0, p1, p2, p3, p4, p5, p6]) rfl (show ActPost (enter p s l) w _ w9 from ⟨V1, rfl, hO9.from_ hle, hfin9⟩)
  have q2 : (kd == 2) = false := by simpa using k2
  by_cases k3 : kd = 3
  · rw [show act p s ⟨kd, xa, xb, xc, xn, l⟩ = release p s by rw [k3]; rfl]
    have q3 : (kd == 3) = true := by simpa using k3
    clear k1 k2 k3
    go_enter Tryz.func17, Tryz.ntmps17
    go_wp2_with fail
    obtain ⟨W0, hW0, hb0, hsE, hK, hD, hR⟩ := boxesDo w p s Ab cb As cs A0 c0 A1 c1 A2 c2 A3 c3 A4 c4 A5 c5 A6 c6 kd xa xb xc xn Al l.length cl
    rw [hW0]
    clear hW0
    refine (wvRelease _ _ _ p s (hP'.out _ hb0) (hV.out _ hb0)).mono ?_
    rintro e W1 ⟨V1, rfl, ho1, hb1⟩
    have hbx9 := hR.out _ hb1
    have hone9 := OwnSt.one ho1
    go_wp2_with (refine wpList_store_state rfl (.tmp 6) (.tmp 37) rfl rfl (w.heap.size + 1 + 1 + 1) nilSV V1 hbx9 rfl rfl hone9 (fun w9 hbox9 hg9 => ?_))
    have hO9 := OwnSt.keptBy ho1 hg9 hbx9 (by decide) (by decide) (by decide) (by decide) (by decide) (by decide)
    have hB1 := hb0.trans (hb1.mono hb0.size)
    have hle := hb0.size
    obtain ⟨p0, p1, p2, p3, p4, p5, p6⟩ := BoxAt.cells hbox9
    have hfin9 : Below w.heap.size w w9 := Below.grown hB1 hg9 (Below.size hB1) (fun k hk => by injection hk with hk; omega)
    go_wp2_with fail
    exact bodyPost_ret (v := .tuple #[SV.val V1, .int .i64 (release p s).2]) (by simp [results, Tryz.results17, go_sem, SV.val, p0, p1, p2, p3, p4, p5, p6]) rfl (show ActPost (release p s) w _ w9 from ⟨V1, rfl, hO9.from_ hle, hfin9⟩)
  have q3 : (kd == 3) = false := by simpa using k3
  by_cases k4 : kd = 4
  · rw [show act p s ⟨kd, xa, xb, xc, xn, l⟩ = cancel p s xa by rw [k4]; rfl]
    have q4 : (kd == 4) = true := by simpa using k4
    clear k1 k2 k3 k4
    go_enter Tryz.func17, Tryz.ntmps17
    go_wp2_with fail
    obtain ⟨W0, hW0, hb0, hsE, hK, hD, hR⟩ := boxesDo w p s Ab cb As cs A0 c0 A1 c1 A2 c2 A3 c3 A4 c4 A5 c5 A6 c6 kd xa xb xc xn Al l.length cl
    rw [hW0]
    clear hW0
    refine (wvCancel _ _ _ p s xa (hP'.out _ hb0) (hV.out _ hb0)).mono ?_
    rintro e W1 ⟨V1, rfl, ho1, hb1⟩
    have hbx9 := hR.out _ hb1
    have hone9 := OwnSt.one ho1
    go_wp2_with (refine wpList_store_state rfl (.tmp 6) (.tmp 46) rfl rfl (w.heap.size + 1 + 1 + 1) nilSV V1 hbx9 rfl rfl hone9 (fun w9 hbox9 hg9 => ?_))
    have hO9 := OwnSt.keptBy ho1 hg9 hbx9 (by decide) (by decide) (by decide) (by decide) (by decide) (by decide)
    have hB1 := hb0.trans (hb1.mono hb0.size)
    have hle := hb0.size
    obtain ⟨p0, p1, p2, p3, p4, p5, p6⟩ := BoxAt.cells hbox9
    have hfin9 : Below w.heap.size w w9 := Below.grown hB1 hg9 (Below.size hB1) (fun k hk => by injection hk with hk; omega)
    go_wp2_with fail
    exact bodyPost_ret (v := .tuple #[SV.val V1, .int .i64 (cancel p s xa).2]) (by simp [results, Tryz.results17, go_sem, SV.val, p0, p1, p2, p3, p4, p5, p6]) rfl (show ActPost (cancel p s xa) w _ w9 from ⟨V1, rfl, hO9.from_ hle, hfin9⟩)
  have q4 : (kd == 4) = false := by simpa using k4
  by_cases k5 : kd = 5
  · rw [show act p s ⟨kd, xa, xb, xc, xn, l⟩ = pick p s xa xb xc xn by rw [k5]; rfl]
    have q5 : (kd == 5) = true := by simpa using k5
    clear k1 k2 k3 k4 k5
    go_enter Tryz.func17, Tryz.ntmps17
    go_wp2_with fail
    obtain ⟨W0, hW0, hb0, hsE, hK, hD, hR⟩ := boxesDo w p s Ab cb As cs A0 c0 A1 c1 A2 c2 A3 c3 A4 c4 A5 c5 A6 c6 kd xa xb xc xn Al l.length cl
    rw [hW0]
    clear hW0
    refine (pkPick _ _ _ p s xa xb xc xn (hP'.out _ hb0) (hV.out _ hb0)).mono ?_
    rintro e W1 ⟨V1, rfl, ho1, hb1⟩
    have hbx9 := hR.out _ hb1
    have hone9 := OwnSt.one ho1
    go_wp2_with (refine wpList_store_state rfl (.tmp 6) (.tmp 61) rfl rfl (w.heap.size + 1 + 1 + 1) nilSV V1 hbx9 rfl rfl hone9 (fun w9 hbox9 hg9 => ?_))
    have hO9 := OwnSt.keptBy ho1 hg9 hbx9 (by decide) (by decide) (by decide) (by decide) (by decide) (by decide)
    have hB1 := hb0.trans (hb1.mono hb0.size)
    have hle := hb0.size
    obtain ⟨p0, p1, p2, p3, p4, p5, p6⟩ := BoxAt.cells hbox9
    have hfin9 : Below w.heap.size w w9 := Below.grown hB1 hg9 (Below.size hB1) (fun k hk => by injection hk with hk; omega)
    go_wp2_with fail
    exact bodyPost_ret (v := .tuple #[SV.val V1, .int .i64 (pick p s xa xb xc xn).2]) (by simp [results, Tryz.results17, go_sem, SV.val, p0, p1, p2, p3, p4, p5, p6]) rfl (show ActPost (pick p s xa xb xc xn) w _ w9 from ⟨V1, rfl, hO9.from_ hle, hfin9⟩)
  have q5 : (kd == 5) = false := by simpa using k5
  by_cases k6 : kd = 6
  · rw [show act p s ⟨kd, xa, xb, xc, xn, l⟩ = fill p s by rw [k6]; rfl]
    have q6 : (kd == 6) = true := by simpa using k6
    clear k1 k2 k3 k4 k5 k6
    go_enter Tryz.func17, Tryz.ntmps17
    go_wp2_with fail
    obtain ⟨W0, hW0, hb0, hsE, hK, hD, hR⟩ := boxesDo w p s Ab cb As cs A0 c0 A1 c1 A2 c2 A3 c3 A4 c4 A5 c5 A6 c6 kd xa xb xc xn Al l.length cl
    rw [hW0]
    clear hW0
    refine (flFill _ _ _ p s (hP'.out _ hb0) (hV.out _ hb0)).mono ?_
    rintro e W1 ⟨V1, rfl, ho1, hb1⟩
    have hbx9 := hR.out _ hb1
    have hone9 := OwnSt.one ho1
    go_wp2_with (refine wpList_store_state rfl (.tmp 6) (.tmp 68) rfl rfl (w.heap.size + 1 + 1 + 1) nilSV V1 hbx9 rfl rfl hone9 (fun w9 hbox9 hg9 => ?_))
    have hO9 := OwnSt.keptBy ho1 hg9 hbx9 (by decide) (by decide) (by decide) (by decide) (by decide) (by decide)
    have hB1 := hb0.trans (hb1.mono hb0.size)
    have hle := hb0.size
    obtain ⟨p0, p1, p2, p3, p4, p5, p6⟩ := BoxAt.cells hbox9
    have hfin9 : Below w.heap.size w w9 := Below.grown hB1 hg9 (Below.size hB1) (fun k hk => by injection hk with hk; omega)
    go_wp2_with fail
    exact bodyPost_ret (v := .tuple #[SV.val V1, .int .i64 (fill p s).2]) (by simp [results, Tryz.results17, go_sem, SV.val, p0, p1, p2, p3, p4, p5, p6]) rfl (show ActPost (fill p s) w _ w9 from ⟨V1, rfl, hO9.from_ hle, hfin9⟩)
  have q6 : (kd == 6) = false := by simpa using k6
  by_cases k7 : kd = 7
  · rw [show act p s ⟨kd, xa, xb, xc, xn, l⟩ = moved p s xa xn by rw [k7]; rfl]
    have q7 : (kd == 7) = true := by simpa using k7
    clear k1 k2 k3 k4 k5 k6 k7
    go_enter Tryz.func17, Tryz.ntmps17
    go_wp2_with fail
    obtain ⟨W0, hW0, hb0, hsE, hK, hD, hR⟩ := boxesDo w p s Ab cb As cs A0 c0 A1 c1 A2 c2 A3 c3 A4 c4 A5 c5 A6 c6 kd xa xb xc xn Al l.length cl
    rw [hW0]
    clear hW0
    refine (flMoved _ _ _ p s xa xn (hP'.out _ hb0) (hV.out _ hb0)).mono ?_
    rintro e W1 ⟨V1, rfl, ho1, hb1⟩
    have hbx9 := hR.out _ hb1
    have hone9 := OwnSt.one ho1
    go_wp2_with (refine wpList_store_state rfl (.tmp 6) (.tmp 79) rfl rfl (w.heap.size + 1 + 1 + 1) nilSV V1 hbx9 rfl rfl hone9 (fun w9 hbox9 hg9 => ?_))
    have hO9 := OwnSt.keptBy ho1 hg9 hbx9 (by decide) (by decide) (by decide) (by decide) (by decide) (by decide)
    have hB1 := hb0.trans (hb1.mono hb0.size)
    have hle := hb0.size
    obtain ⟨p0, p1, p2, p3, p4, p5, p6⟩ := BoxAt.cells hbox9
    have hfin9 : Below w.heap.size w w9 := Below.grown hB1 hg9 (Below.size hB1) (fun k hk => by injection hk with hk; omega)
    go_wp2_with fail
    exact bodyPost_ret (v := .tuple #[SV.val V1, .int .i64 (moved p s xa xn).2]) (by simp [results, Tryz.results17, go_sem, SV.val, p0, p1, p2, p3, p4, p5, p6]) rfl (show ActPost (moved p s xa xn) w _ w9 from ⟨V1, rfl, hO9.from_ hle, hfin9⟩)
  have q7 : (kd == 7) = false := by simpa using k7
  by_cases k8 : kd = 8
  · rw [show act p s ⟨kd, xa, xb, xc, xn, l⟩ = count p s xa xb xn by rw [k8]; rfl]
    have q8 : (kd == 8) = true := by simpa using k8
    clear k1 k2 k3 k4 k5 k6 k7 k8
    go_enter Tryz.func17, Tryz.ntmps17
    go_wp2_with fail
    obtain ⟨W0, hW0, hb0, hsE, hK, hD, hR⟩ := boxesDo w p s Ab cb As cs A0 c0 A1 c1 A2 c2 A3 c3 A4 c4 A5 c5 A6 c6 kd xa xb xc xn Al l.length cl
    rw [hW0]
    clear hW0
    refine (ctCount _ _ _ p s xa xb xn (hP'.out _ hb0) (hV.out _ hb0)).mono ?_
    rintro e W1 ⟨V1, rfl, ho1, hb1⟩
    have hbx9 := hR.out _ hb1
    have hone9 := OwnSt.one ho1
    go_wp2_with (refine wpList_store_state rfl (.tmp 6) (.tmp 92) rfl rfl (w.heap.size + 1 + 1 + 1) nilSV V1 hbx9 rfl rfl hone9 (fun w9 hbox9 hg9 => ?_))
    have hO9 := OwnSt.keptBy ho1 hg9 hbx9 (by decide) (by decide) (by decide) (by decide) (by decide) (by decide)
    have hB1 := hb0.trans (hb1.mono hb0.size)
    have hle := hb0.size
    obtain ⟨p0, p1, p2, p3, p4, p5, p6⟩ := BoxAt.cells hbox9
    have hfin9 : Below w.heap.size w w9 := Below.grown hB1 hg9 (Below.size hB1) (fun k hk => by injection hk with hk; omega)
    go_wp2_with fail
    exact bodyPost_ret (v := .tuple #[SV.val V1, .int .i64 (count p s xa xb xn).2]) (by simp [results, Tryz.results17, go_sem, SV.val, p0, p1, p2, p3, p4, p5, p6]) rfl (show ActPost (count p s xa xb xn) w _ w9 from ⟨V1, rfl, hO9.from_ hle, hfin9⟩)
  have q8 : (kd == 8) = false := by simpa using k8
  · rw [show act p s ⟨kd, xa, xb, xc, xn, l⟩ = (dState, 8) by unfold act; simp only [k1, k2, k3, k4, k5, k6, k7, k8, if_false]]
    clear k1 k2 k3 k4 k5 k6 k7 k8
    obtain ⟨W0, hW0, hb0, hsE, hK, hD, hR⟩ := boxesDo w p s Ab cb As cs A0 c0 A1 c1 A2 c2 A3 c3 A4 c4 A5 c5 A6 c6 kd xa xb xc xn Al l.length cl
    subst hW0
    have hbx9 := hR.out _ (Below.refl _ _)
    go_enter Tryz.func17, Tryz.ntmps17
    go_wp2_with (refine wpList_store_state rfl (.tmp 6) (.tmp 94) rfl rfl (w.heap.size + 1 + 1 + 1) nilSV nilSV hbx9 rfl rfl rfl (fun w9 hbox9 hg9 => ?_))
    have hle := hb0.size
    obtain ⟨p0, p1, p2, p3, p4, p5, p6⟩ := BoxAt.cells hbox9
    have hfin9 : Below w.heap.size w w9 := Below.grown hb0 hg9 (Below.size hb0) (fun k hk => by injection hk with hk; omega)
    go_wp2_with fail
    exact bodyPost_ret (v := .tuple #[nilSV.val, .int .i64 8]) (by simp [results, Tryz.results17, go_sem, SV.val, p0, p1, p2, p3, p4, p5, p6]) rfl (actErr rfl hfin9)
end Wh
namespace Wh
open Go Go.RowKit Go.Shelf Go.Proofs
attribute [local go_sem] run_indexAt_letter evL_tmp evL_const evL_func

theorem Own.at_block {α : Type} {enc : α → List Value} {size : Nat} {e : TypeId} {w : World} {base g : Nat} {cs : Array Value} {l : List α} (hb : base ≤ g) (hg : w.heap[g]? = some (.cells cs e)) (hc : cs.toList = l.flatMap enc)
    (hk : ∀ x, (enc x).length = size) (hl : l.length ≤ 1000000) : Own enc size e w base (.slice (some ⟨g, 0, none⟩) l.length l.length) l := by
  refine ⟨by rw [flat_length enc size hk], .inr ⟨g, l.length, cs, rfl, hb, hg, Nat.le_refl _, by unfold maxLen; omega, ?_, ?_⟩⟩
  · rw [← Array.length_toList, hc, flat_length enc size hk]
  · rw [hc, ← flat_length enc size hk, List.take_length]

def busyS : State := ⟨[[9, 0], [3, 0], [0, 6]], [⟨1, [⟨0, 6, 1, 0⟩, ⟨1, 9, 0, 3⟩]⟩, ⟨0, [⟨0, 4, 0, 0⟩]⟩], [⟨0, 0, 0, 2⟩, ⟨0, 0, 1, 3⟩, ⟨0, 1, 2, 6⟩], [⟨0, 0, 1, 5⟩], [13, 6], [1, 0], [0, 0]⟩
def busyV (n : Nat) : SV :=
  ⟨.slice (some ⟨n + 4, 0, none⟩) 3 3, .slice (some ⟨n + 7, 0, none⟩) 2 2, .slice (some ⟨n + 8, 0, none⟩) 3 3, .slice (some ⟨n + 9, 0, none⟩) 1 1, .slice (some ⟨n + 10, 0, none⟩) 2 2, .slice (some ⟨n + 11, 0, none⟩) 2 2, .slice (some ⟨n + 12, 0, none⟩) 2 2,
   [.slice (some ⟨n + 1, 0, none⟩) 2 2, .slice (some ⟨n + 2, 0, none⟩) 2 2, .slice (some ⟨n + 3, 0, none⟩) 2 2], [.slice (some ⟨n + 5, 0, none⟩) 2 2, .slice (some ⟨n + 6, 0, none⟩) 1 1]⟩
def busyO (n : Nat) : List Obj := [
  .cells (busyV n).cells.toArray 31,
  .cells #[.int .i64 9, .int .i64 0] 3, .cells #[.int .i64 3, .int .i64 0] 3, .cells #[.int .i64 0, .int .i64 6] 3,
  .cells #[.slice (some ⟨n + 1, 0, none⟩) 2 2, .slice (some ⟨n + 2, 0, none⟩) 2 2, .slice (some ⟨n + 3, 0, none⟩) 2 2] 23,
  .cells #[.int .i64 0, .int .i64 6, .int .i64 1, .int .i64 0, .int .i64 1, .int .i64 9, .int .i64 0, .int .i64 3] 44,
  .cells #[.int .i64 0, .int .i64 4, .int .i64 0, .int .i64 0] 44,
  .cells #[.int .i64 1, .slice (some ⟨n + 5, 0, none⟩) 2 2, .int .i64 0, .slice (some ⟨n + 6, 0, none⟩) 1 1] 42,
  .cells #[.int .i64 0, .int .i64 0, .int .i64 0, .int .i64 2, .int .i64 0, .int .i64 0, .int .i64 1, .int .i64 3, .int .i64 0, .int .i64 1, .int .i64 2, .int .i64 6] 46,
  .cells #[.int .i64 0, .int .i64 0, .int .i64 1, .int .i64 5] 48,
  .cells #[.int .i64 13, .int .i64 6] 3, .cells #[.int .i64 1, .int .i64 0] 3, .cells #[.int .i64 0, .int .i64 0] 3]
def lay (w : World) (os : List Obj) : World := { w with heap := w.heap ++ os.toArray }
theorem lay_alloc (w : World) (os : List Obj) (o : Obj) : (lay w os).alloc o = lay w (os ++ [o]) := by
  unfold lay World.alloc
  simp
theorem lay_nil (w : World) : lay w [] = w := by unfold lay; simp
theorem lay_foldl (w : World) (os : List Obj) : lay w os = os.foldl World.alloc w := by
  suffices h : ∀ (os ps : List Obj), lay w (ps ++ os) = os.foldl World.alloc (lay w ps) by
    have := h os []
    rwa [lay_nil] at this
  intro os
  induction os with
  | nil => intro ps; simp
  | cons o os ih =>
    intro ps
    have := ih (ps ++ [o])
    rw [List.foldl_cons, lay_alloc, ← this]
    simp
theorem lay_below (w : World) (os : List Obj) : Below w.heap.size w (lay w os) := below_wld w w.drawn os.toArray
theorem lay_at (w : World) (os : List Obj) (i : Nat) : (lay w os).heap[w.heap.size + i]? = os[i]? := by
  unfold lay
  rw [Array.getElem?_append_right (by omega)]
  simp
theorem busyOwn (w : World) : OwnSt (lay w (busyO w.heap.size)) w.heap.size (busyV w.heap.size) busyS := by
  have H := lay_at w (busyO w.heap.size)
  refine ⟨Own.at_block (by omega) (H 4) rfl (fun _ => rfl) (by simp [busyV]), rfl, fun b hb => ?_, Own.at_block (by omega) (H 7) rfl (fun _ => rfl) (by simp [ords, busyS, busyV]), rfl, fun o ho => ?_, Own.at_block (by omega) (H 8) rfl (fun _ => rfl) (by decide), Own.at_block (by omega) (H 9) rfl (fun _ => rfl) (by decide),
    Own.at_block (by omega) (H 10) rfl (fun _ => rfl) (by decide), Own.at_block (by omega) (H 11) rfl (fun _ => rfl) (by decide), Own.at_block (by omega) (H 12) rfl (fun _ => rfl) (by decide), ?_, ?_⟩
  · match b, hb with
    | 0, _ => exact Own.at_block (l := ([9, 0] : List Int)) (by omega) (H 1) rfl (fun _ => rfl) (by decide)
    | 1, _ => exact Own.at_block (l := ([3, 0] : List Int)) (by omega) (H 2) rfl (fun _ => rfl) (by decide)
    | 2, _ => exact Own.at_block (l := ([0, 6] : List Int)) (by omega) (H 3) rfl (fun _ => rfl) (by decide)
    | b + 3, hb => simp [busyS] at hb; omega
  · match o, ho with
    | 0, _ => exact Own.at_block (l := ([⟨0, 6, 1, 0⟩, ⟨1, 9, 0, 3⟩] : List Line)) (by omega) (H 5) rfl (fun _ => rfl) (by decide)
    | 1, _ => exact Own.at_block (l := ([⟨0, 4, 0, 0⟩] : List Line)) (by omega) (H 6) rfl (fun _ => rfl) (by decide)
    | o + 2, ho => simp [busyS] at ho; omega
  · unfold apartL busyV
    simp [Value.ownBlock]
  · unfold apartL busyV
    simp [Value.ownBlock]

set_option maxHeartbeats 4000000 in
theorem lBusy (w : World) : Calls Tryz.prog 42 #[] w fun e w' => ∃ V, e = .returned V.val ∧ OwnSt w' w.heap.size V busyS ∧ Below w.heap.size w w' := by
  go_enter Tryz.func42, Tryz.ntmps42
  go_wp2_with fail
  have h1 := busyOwn w
  have h2 := lay_below w (busyO w.heap.size)
  rw [lay_foldl] at h1 h2
  refine bodyPost_ret (v := (busyV w.heap.size).val) ?_ rfl ⟨busyV w.heap.size, rfl, h1, h2⟩
  simp [results, Tryz.results42, go_sem, SV.val, busyV]

def small (s : State) : Bool := decide (s.on.length ≤ 1000) && s.on.all (fun r => decide (r.length ≤ 1000)) && decide (s.orders.length ≤ 1000) && s.orders.all (fun o => decide (o.lines.length ≤ 1000)) && decide (s.holds.length ≤ 1000) && decide (s.moves.length ≤ 1000) && decide (s.inn.length ≤ 1000) && decide (s.out.length ≤ 1000) && decide (s.fixed.length ≤ 1000)
/-- It reads as the state, however that is. -/
theorem OwnSt.view0 {w : World} {base : Nat} {V : SV} {s : State} (h : OwnSt w base V s) (hs : small s = true) : StateV w w.heap.size V.val s := by
  unfold small at hs
  simp only [Bool.and_eq_true, decide_eq_true_eq, List.all_eq_true] at hs
  obtain ⟨⟨⟨⟨⟨⟨⟨⟨s1, s2⟩, s3⟩, s4⟩, s5⟩, s6⟩, s7⟩, s8⟩, s9⟩ := hs
  obtain ⟨A, c, hv, _, hA⟩ := h.on.sl (by rw [h.rlen]; omega)
  obtain ⟨A1, c1, hv1, _, hA1⟩ := h.orders.sl (by rw [ords_length h.llen]; omega)
  refine ⟨_, _, _, _, _, _, _, rfl, ⟨A, c, V.rows, by rw [hv, h.rlen], by omega, h.rlen, ?_, fun i x hi => ?_⟩, ⟨A1, c1, V.lines, by rw [hv1, ords_length h.llen], by omega, h.llen, ?_, fun i x hi => ?_⟩, h.holds.sl (by omega), h.moves.sl (by omega), h.inn.sl (by omega), h.out.sl (by omega), h.fixed.sl (by omega)⟩
  · have : V.rows.flatMap (fun u => [u]) = V.rows := by simp
    rw [this] at hA
    exact hA
  · have hil : i < s.on.length := (List.getElem?_eq_some_iff.1 hi).1
    have hx : rowAt s.on i = x := by rw [rowAt_eq hil]; exact (List.getElem?_eq_some_iff.1 hi).2
    have := s2 x (List.mem_of_getElem? hi)
    exact ⟨_, h.rowGet hil, by rw [← hx]; exact (h.row i hil).sl (by rw [hx]; omega)⟩
  · have e : (s.orders.zip V.lines).flatMap (fun x => [Value.int .i64 x.1.kind, x.2]) = (ords s.orders V.lines).flatMap cOrd := by
      unfold ords cOrd
      rw [List.zip_eq_zipWith, List.flatMap_def, List.flatMap_def, List.map_zipWith, List.map_zipWith]
    rw [e]
    exact hA1
  · have hil : i < s.orders.length := (List.getElem?_eq_some_iff.1 hi).1
    have hx : s.order i = x := by unfold State.order; rw [orderAt_eq hil]; exact (List.getElem?_eq_some_iff.1 hi).2
    have := s4 x (List.mem_of_getElem? hi)
    exact ⟨_, h.lineGet hil, by rw [← hx]; exact (h.line i hil).sl (by rw [hx]; omega)⟩
end Wh
namespace Wh
open Go Go.RowKit Go.Shelf Go.Proofs
attribute [local go_sem] run_indexAt_letter evL_tmp evL_const evL_func

theorem StateV.sv {w : World} {B : Nat} {u : Value} {s : State} (h : StateV w B u s) : ∃ V : SV, u = V.val ∧ V.cells.all (fun u => u.oneCell') = true := by
  obtain ⟨v0, v1, v2, v3, v4, v5, v6, rfl, ⟨_, _, _, rfl, _⟩, ⟨_, _, _, rfl, _⟩, ⟨_, _, rfl, _⟩, ⟨_, _, rfl, _⟩, ⟨_, _, rfl, _⟩, ⟨_, _, rfl, _⟩, ⟨_, _, rfl, _⟩⟩ := h
  exact ⟨⟨_, _, _, _, _, _, _, [], []⟩, rfl, rfl⟩

end Wh
namespace Wh
open Go Go.RowKit Go.Shelf Go.Proofs
attribute [local go_sem] run_indexAt_letter evL_tmp evL_const evL_func

theorem sane_small {p : Plan} {s : State} (h : Sane p s) : small s = true := by
  have hc := h.counts
  have h4 := h.orders4
  have h8 := h.moves8
  have h72 := ok_len72 h.holds
  unfold small
  simp only [Bool.and_eq_true, decide_eq_true_eq, List.all_eq_true]
  refine ⟨⟨⟨⟨⟨⟨⟨⟨?_, fun r hr => ?_⟩, ?_⟩, fun o ho => ?_⟩, ?_⟩, ?_⟩, ?_⟩, ?_⟩, ?_⟩
  · rw [h.onLen]; omega
  · obtain ⟨i, hi, rfl⟩ := List.getElem_of_mem hr
    have h1 := h.rowLen (b := i) (by rw [← h.onLen]; exact hi)
    rw [rowAt_eq hi] at h1
    omega
  · omega
  · obtain ⟨i, hi, rfl⟩ := List.getElem_of_mem ho
    have h1 := h.lines3 hi
    unfold State.order at h1
    rw [orderAt_eq hi] at h1
    omega
  · omega
  · omega
  · rw [h.inn.1]; omega
  · rw [h.out.1]; omega
  · rw [h.fixed.1]; omega
theorem check_small {p : Plan} {s : State} (h : checkState p s = 0) : small s = true := sane_small (checkState_zero.1 h).1
theorem ActPost.at {r : State × Int} {c : Int} (hc : r.2 = c) {w : World} {e : Ending} {w' : World} (h : ActPost r w e w') : ∃ V, e = .returned (.tuple #[V.val, .int .i64 c]) ∧ OwnSt w' w.heap.size V r.1 ∧ Below w.heap.size w w' := by rw [← hc]; exact h
end Wh
