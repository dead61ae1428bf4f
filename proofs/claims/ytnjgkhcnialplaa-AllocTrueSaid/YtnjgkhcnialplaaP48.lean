/- Texts of the claim, joined: AllocC, RelC, AllocD. -/
import Derived.Test.YtnjgkhcnialplaaP47
import Derived.Test.YtnjgkhcnialplaaP39
import Derived.Test.YtnjgkhcnialplaaP40
namespace Wh
open Go Go.RowKit Go.Shelf Go.Proofs
attribute [local go_sem] run_indexAt_letter evL_tmp evL_const evL_func

def TkPost (r : State × Int × Int) (w : World) (e : Ending) (w' : World) : Prop := ∃ V, e = .returned (.tuple #[V.val, .int .i64 r.2.1, .int .i64 r.2.2]) ∧ OwnSt w' w.heap.size V r.1 ∧ Below w.heap.size w w'
theorem tkErr {r : State × Int × Int} {c : Int} {w w' : World} (h : r = (dState, 0, c)) (hb : Below w.heap.size w w') : TkPost r w (.returned (.tuple #[nilSV.val, .int .i64 0, .int .i64 c])) w' :=
  ⟨nilSV, by rw [h], by rw [h]; exact OwnSt.zero _ _, hb⟩
theorem tkOk {r : State × Int × Int} {s : State} {n : Int} {V : SV} {w w' : World} (h : r = (s, n, 0)) (ho : OwnSt w' w.heap.size V s) (hb : Below w.heap.size w w') : TkPost r w (.returned (.tuple #[V.val, .int .i64 n, .int .i64 0])) w' :=
  ⟨V, by rw [h], by rw [h]; exact ho, hb⟩
section
variable {p : Plan} {s : State} {o k n but : Int}
theorem take_bad (h : checkState p s ≠ 0) : take p s o k n but = (dState, 0, checkState p s) := by unfold take; rw [if_pos h]
theorem take_range (h : checkState p s = 0) (h2 : o < 0 ∨ (s.orders.length : Int) ≤ o ∨ k < 0 ∨ ((s.order o.toNat).lines.length : Int) ≤ k ∨ n < 0 ∨ 200 < n ∨ but < -1 ∨ (p.bins.length : Int) ≤ but) : take p s o k n but = (dState, 0, 3) := by
  unfold take
  rw [if_neg (fun hn => hn h)]
  cases h3 : within o 0 (s.orders.length - 1)
  · rfl
  · have h3' := within_iff.1 h3
    rw [if_neg (by simp), if_pos]
    cases h4 : within k 0 ((s.order o.toNat).lines.length - 1)
    · rfl
    · have h4' := within_iff.1 h4
      cases h5 : within n 0 200
      · rfl
      · have h5' := within_iff.1 h5
        have h6 : (decide (but = -1) || isBin p but) = false := by
          have := @isBin_iff p but
          cases hb : isBin p but <;> simp only [hb, Bool.false_eq_true, false_iff, true_iff] at this <;> simp <;> omega
        rw [h6]
        rfl
theorem take_in {o k : Nat} (h : checkState p s = 0) (ho : o < s.orders.length) (hk : k < (s.order o).lines.length) (hn : 0 ≤ n ∧ n ≤ 200) (hb : -1 ≤ but ∧ but < p.bins.length) :
    take p s o k n but = if (s.order o).kind ≠ 1 then (dState, 0, 6) else if (s.line o k).back < n then (dState, 0, 3) else ((takeS p s o k n but).1, (takeS p s o k n but).2, 0) := by
  have h1 : within (o : Int) 0 (s.orders.length - 1) = true := within_iff.2 (by omega)
  have h2 : within (k : Int) 0 ((s.order o).lines.length - 1) = true := within_iff.2 (by omega)
  have h3 : within n 0 200 = true := within_iff.2 hn
  have h4 : (decide (but = -1) || isBin p but) = true := by
    by_cases hm : but = -1
    · simp [hm]
    · have : isBin p but = true := isBin_iff.2 (by omega)
      simp [this]
  unfold take
  rw [if_neg (fun hn => hn h), h1, if_neg (by simp)]
  simp only [Int.toNat_natCast]
  rw [h2, h3, h4]
  simp
end

set_option maxHeartbeats 8000000 in
set_option maxRecDepth 100000 in
theorem alTake (w : World) (v vs : Value) (p : Plan) (s : State) (o k n but : Int) (hp : PlanV w w.heap.size v p) (hv : StateV w w.heap.size vs s) :
    Calls Try.prog 39 #[v, vs, .int .i64 o, .int .i64 k, .int .i64 n, .int .i64 but] w (TkPost (take p s o k n but) w) := by
  obtain ⟨Ab, cb, As, cs, rfl, hP', hBn, hSz, hlb, hls⟩ := openPl hp
  obtain ⟨A0, c0, A1, c1, A2, c2, A3, c3, A4, c4, A5, c5, A6, c6, rfl, hV, hN, hO, hH, hM, hI, hU, hX, hl0, hl1, hl2, hl3, hl4, hl5, hl6⟩ := openOne hv
  go_enter Try.func39, Try.ntmps39
  go_wp2_with fail
  obtain ⟨W0, hW0, hb0, hsz0, hsz1, hsE, hK, hR⟩ := boxesAct w p s Ab cb As cs A0 c0 A1 c1 A2 c2 A3 c3 A4 c4 A5 c5 A6 c6
  rw [hW0]
  clear hW0
  obtain ⟨⟨y0, y1⟩, x0, x1, x2, x3, x4, x5, x6, hbz0, hbz1⟩ := hK.out W0 (Below.refl W0.heap.size W0)
  go_wp2_with fail
  clear y0 y1 x0 x1 x2 x3 x4 x5 x6 hbz0 hbz1
  refine (sCheck _ _ _ p s (hP'.out _ hb0) (hV.out _ hb0)).mono ?_
  rintro e W1 ⟨rfl, h1⟩
  have hB1 := hb0.trans (h1.mono hb0.size)
  obtain ⟨⟨y0, y1⟩, x0, x1, x2, x3, x4, x5, x6, hbz0, hbz1⟩ := hK.out W1 (h1)
  by_cases hc : checkState p s = 0
  · have hc' := Lib.hid hc
    have hsn := Lib.hid (checkState_zero.1 hc).1
    rw [hc]
    clear hc
    by_cases g1 : o < 0
    · have hfin := Lib.hid (take_range (o := o) (k := k) (n := n) (but := but) hc'.out (by omega))
      have hbx9 := hR.out _ h1
      go_wp2_with (refine wpList_store_state rfl (.tmp 12) (.tmp 68) rfl rfl (w.heap.size + 1 + 1) nilSV nilSV hbx9 rfl rfl rfl (fun w9 hbox9 hg9 => ?_))
      obtain ⟨p0, p1, p2, p3, p4, p5, p6⟩ := BoxAt.cells hbox9
      have hfin9 : Below w.heap.size w w9 := Below.grown hB1 hg9 (Below.size hB1) (fun k hk => by injection hk with hk; omega)
      go_wp2_with fail
      exact bodyPost_ret (v := .tuple #[nilSV.val, .int .i64 0, .int .i64 3]) (by simp [results, Try.results39, go_sem, SV.val, p0, p1, p2, p3, p4, p5, p6]) rfl (tkErr hfin.out hfin9)
    by_cases g2 : (s.orders.length : Int) ≤ o
    · have hfin := Lib.hid (take_range (o := o) (k := k) (n := n) (but := but) hc'.out (by omega))
      have hbx9 := hR.out _ h1
      go_wp2_with (refine wpList_store_state rfl (.tmp 12) (.tmp 68) rfl rfl (w.heap.size + 1 + 1) nilSV nilSV hbx9 rfl rfl rfl (fun w9 hbox9 hg9 => ?_))
      obtain ⟨p0, p1, p2, p3, p4, p5, p6⟩ := BoxAt.cells hbox9
      have hfin9 : Below w.heap.size w w9 := Below.grown hB1 hg9 (Below.size hB1) (fun k hk => by injection hk with hk; omega)
      go_wp2_with fail
      exact bodyPost_ret (v := .tuple #[nilSV.val, .int .i64 0, .int .i64 3]) (by simp [results, Try.results39, go_sem, SV.val, p0, p1, p2, p3, p4, p5, p6]) rfl (tkErr hfin.out hfin9)
    obtain ⟨i, rfl⟩ : ∃ i : Nat, o = i := ⟨o.toNat, by omega⟩
    have hi : i < s.orders.length := by omega
    have hi' : (i : Int) < s.orders.length := by omega
    clear g1 g2
    obtain ⟨Al, cl, ol, ll, d0, d1, hsl⟩ := (hO.out W1 hB1).order hi
    by_cases g3 : k < 0
    · have hfin := Lib.hid (take_range (o := i) (k := k) (n := n) (but := but) hc'.out (by omega))
      have hbx9 := hR.out _ h1
      go_wp2_with (refine wpList_store_state rfl (.tmp 12) (.tmp 68) rfl rfl (w.heap.size + 1 + 1) nilSV nilSV hbx9 rfl rfl rfl (fun w9 hbox9 hg9 => ?_))
      obtain ⟨p0, p1, p2, p3, p4, p5, p6⟩ := BoxAt.cells hbox9
      have hfin9 : Below w.heap.size w w9 := Below.grown hB1 hg9 (Below.size hB1) (fun k hk => by injection hk with hk; omega)
      go_wp2_with fail
      exact bodyPost_ret (v := .tuple #[nilSV.val, .int .i64 0, .int .i64 3]) (by simp [results, Try.results39, go_sem, SV.val, p0, p1, p2, p3, p4, p5, p6]) rfl (tkErr hfin.out hfin9)
    by_cases g4 : ((orderAt s.orders i).lines.length : Int) ≤ k
    · have hfin := Lib.hid (take_range (o := i) (k := k) (n := n) (but := but) hc'.out (by simp only [Int.toNat_natCast]; exact .inr (.inr (.inr (.inl g4)))))
      have hbx9 := hR.out _ h1
      go_wp2_with (refine wpList_store_state rfl (.tmp 12) (.tmp 68) rfl rfl (w.heap.size + 1 + 1) nilSV nilSV hbx9 rfl rfl rfl (fun w9 hbox9 hg9 => ?_))
      obtain ⟨p0, p1, p2, p3, p4, p5, p6⟩ := BoxAt.cells hbox9
      have hfin9 : Below w.heap.size w w9 := Below.grown hB1 hg9 (Below.size hB1) (fun k hk => by injection hk with hk; omega)
      go_wp2_with fail
      exact bodyPost_ret (v := .tuple #[nilSV.val, .int .i64 0, .int .i64 3]) (by simp [results, Try.results39, go_sem, SV.val, p0, p1, p2, p3, p4, p5, p6]) rfl (tkErr hfin.out hfin9)
    obtain ⟨j, rfl⟩ : ∃ j : Nat, k = j := ⟨k.toNat, by omega⟩
    have hj : j < (orderAt s.orders i).lines.length := by omega
    have hj' : (j : Int) < (orderAt s.orders i).lines.length := by omega
    clear g3 g4
    by_cases g5 : n < 0
    · have hfin := Lib.hid (take_range (o := i) (k := j) (n := n) (but := but) hc'.out (by omega))
      have hbx9 := hR.out _ h1
      go_wp2_with (refine wpList_store_state rfl (.tmp 12) (.tmp 68) rfl rfl (w.heap.size + 1 + 1) nilSV nilSV hbx9 rfl rfl rfl (fun w9 hbox9 hg9 => ?_))
      obtain ⟨p0, p1, p2, p3, p4, p5, p6⟩ := BoxAt.cells hbox9
      have hfin9 : Below w.heap.size w w9 := Below.grown hB1 hg9 (Below.size hB1) (fun k hk => by injection hk with hk; omega)
      go_wp2_with fail
      exact bodyPost_ret (v := .tuple #[nilSV.val, .int .i64 0, .int .i64 3]) (by simp [results, Try.results39, go_sem, SV.val, p0, p1, p2, p3, p4, p5, p6]) rfl (tkErr hfin.out hfin9)
    by_cases g6 : 200 < n
    · have hfin := Lib.hid (take_range (o := i) (k := j) (n := n) (but := but) hc'.out (by omega))
      have hbx9 := hR.out _ h1
      go_wp2_with (refine wpList_store_state rfl (.tmp 12) (.tmp 68) rfl rfl (w.heap.size + 1 + 1) nilSV nilSV hbx9 rfl rfl rfl (fun w9 hbox9 hg9 => ?_))
      obtain ⟨p0, p1, p2, p3, p4, p5, p6⟩ := BoxAt.cells hbox9
      have hfin9 : Below w.heap.size w w9 := Below.grown hB1 hg9 (Below.size hB1) (fun k hk => by injection hk with hk; omega)
      go_wp2_with fail
      exact bodyPost_ret (v := .tuple #[nilSV.val, .int .i64 0, .int .i64 3]) (by simp [results, Try.results39, go_sem, SV.val, p0, p1, p2, p3, p4, p5, p6]) rfl (tkErr hfin.out hfin9)
    by_cases g7 : but < -1
    · have hfin := Lib.hid (take_range (o := i) (k := j) (n := n) (but := but) hc'.out (by omega))
      have hbx9 := hR.out _ h1
      go_wp2_with (refine wpList_store_state rfl (.tmp 12) (.tmp 68) rfl rfl (w.heap.size + 1 + 1) nilSV nilSV hbx9 rfl rfl rfl (fun w9 hbox9 hg9 => ?_))
      obtain ⟨p0, p1, p2, p3, p4, p5, p6⟩ := BoxAt.cells hbox9
      have hfin9 : Below w.heap.size w w9 := Below.grown hB1 hg9 (Below.size hB1) (fun k hk => by injection hk with hk; omega)
      go_wp2_with fail
      exact bodyPost_ret (v := .tuple #[nilSV.val, .int .i64 0, .int .i64 3]) (by simp [results, Try.results39, go_sem, SV.val, p0, p1, p2, p3, p4, p5, p6]) rfl (tkErr hfin.out hfin9)
    by_cases g8 : (p.bins.length : Int) ≤ but
    · have hfin := Lib.hid (take_range (o := i) (k := j) (n := n) (but := but) hc'.out (by omega))
      have hbx9 := hR.out _ h1
      go_wp2_with (refine wpList_store_state rfl (.tmp 12) (.tmp 68) rfl rfl (w.heap.size + 1 + 1) nilSV nilSV hbx9 rfl rfl rfl (fun w9 hbox9 hg9 => ?_))
      obtain ⟨p0, p1, p2, p3, p4, p5, p6⟩ := BoxAt.cells hbox9
      have hfin9 : Below w.heap.size w w9 := Below.grown hB1 hg9 (Below.size hB1) (fun k hk => by injection hk with hk; omega)
      go_wp2_with fail
      exact bodyPost_ret (v := .tuple #[nilSV.val, .int .i64 0, .int .i64 3]) (by simp [results, Try.results39, go_sem, SV.val, p0, p1, p2, p3, p4, p5, p6]) rfl (tkErr hfin.out hfin9)
    have hin := Lib.hid (take_in (n := n) (but := but) hc'.out hi hj (by omega) (by omega))
    obtain ⟨ok2, l2, e0, e1, e2, e3⟩ := hsl.at_.line hj
    by_cases hkd : (orderAt s.orders i).kind = 1
    · have hkd' : ((orderAt s.orders i).kind != 1) = false := by simpa using hkd
      by_cases hbk : (lineAt (orderAt s.orders i).lines j).back < n
      · have hfin := Lib.hid (show take p s i j n but = (dState, 0, 3) by rw [hin.out, if_neg (fun h => h (show (s.order i).kind = 1 from hkd)), if_pos (show (s.line i j).back < n from hbk)])
        clear hkd
        have hbx9 := hR.out _ h1
        go_wp2_with (refine wpList_store_state rfl (.tmp 12) (.tmp 89) rfl rfl (w.heap.size + 1 + 1) nilSV nilSV hbx9 rfl rfl rfl (fun w9 hbox9 hg9 => ?_))
        obtain ⟨p0, p1, p2, p3, p4, p5, p6⟩ := BoxAt.cells hbox9
        have hfin9 : Below w.heap.size w w9 := Below.grown hB1 hg9 (Below.size hB1) (fun k hk => by injection hk with hk; omega)
        go_wp2_with fail
        exact bodyPost_ret (v := .tuple #[nilSV.val, .int .i64 0, .int .i64 3]) (by simp [results, Try.results39, go_sem, SV.val, p0, p1, p2, p3, p4, p5, p6]) rfl (tkErr hfin.out hfin9)
      · have hfin := Lib.hid (show take p s i j n but = ((takeS p s i j n but).1, (takeS p s i j n but).2, 0) by rw [hin.out, if_neg (fun h => h (show (s.order i).kind = 1 from hkd)), if_neg (show ¬ (s.line i j).back < n from hbk)])
        have hmay := Lib.hid (show May s i j n from ⟨hi, hj, hkd, by omega, by have : ¬ (s.line i j).back < n := hbk; omega⟩)
        have hrt := Lib.hid (right_of_check hc'.out)
        clear hkd
        go_wp2_with fail
        clear y0 y1 x0 x1 x2 x3 x4 x5 x6 hbz0 hbz1
        clear d0 d1 e0 e1 e2 e3 hbk hkd' g5 g6 g7 g8 hj' hi'
        refine (sOwn _ _ p s (hV.out _ hB1) hsn.out).mono ?_
        rintro e W5 ⟨_, rfl, ⟨V5, rfl, ho5⟩, h5⟩
        have hone6 := (ho5).one
        have hnb6 := newBox (W5)
        go_wp2_with (refine wpList_store_state rfl (.tmp 16) (.tmp 91) rfl rfl (World.heap (W5)).size nilSV V5 hnb6 rfl rfl hone6 (fun w6 hbox6 hg6 => ?_); refine Hid.out ?_)
        unfold Hid
        have hbb6 := newBelow hg6
        have hbl6 := hbox6.lt
        clear hone6 hnb6 hg6
        have hx6 := Lib.hid (Bx.of hbox6 (ho5.below hbb6))
        have h06 := h1.trans ((h5.trans (hbb6.mono h5.size)).mono h1.size)
        have hB6 := hb0.trans (h06.mono hb0.size)
        have hle : w.heap.size ≤ W1.heap.size := hB1.size
        have hle0 : W0.heap.size ≤ W1.heap.size := h1.size
        have hle5 : W1.heap.size ≤ W5.heap.size := h5.size
        have hle6 : W5.heap.size < w6.heap.size := hbl6
        clear hbox6 ho5 hbb6 h5 hbl6
        obtain ⟨⟨y0, y1⟩, x0, x1, x2, x3, x4, x5, x6, hbz0, hbz1⟩ := hK.out w6 (h06)
        go_wp2_with fail
        clear y0 y1 x0 x1 x2 x3 x4 x5 x6 hbz0 hbz1
        refine (alHold _ _ p s i j n but (hP'.out _ hB6) hrt.out hmay.out hx6.out (by omega)).mono ?_
        rintro e w7 ⟨rfl, V7, hsb7, hx7, hst7⟩
        have hge : ∀ q, (q = W5.heap.size ∨ (V5.line i).ownBlock = some q) → W1.heap.size ≤ q := fun q hq => by
          rcases hq with rfl | hq
          · exact hle5
          · exact ((hx6.out.own.line i hi).size q hq).1
        have h07 := h06.trans (hst7.below (B := W0.heap.size) (fun q hq => Nat.le_trans hle0 (hge q hq)) h06.size)
        have hB7 := hb0.trans (h07.mono hb0.size)
        have hx7' := Lib.hid hx7
        clear hx7 hst7 hsb7 hge
        have hbx9 := hR.out _ h07
        obtain ⟨b0, b1, b2, b3, b4, b5, b6⟩ := BoxAt.cells hx7'.out.boxAt
        have hone9 := OwnSt.one hx7'.out.own
        go_wp2_with (refine wpList_store_state rfl (.tmp 12) (.tmp 98) rfl rfl (w.heap.size + 1 + 1) nilSV V7 hbx9 rfl rfl hone9 (fun w9 hbox9 hg9 => ?_))
        have hO9 := OwnSt.keptBy hx7'.out.own hg9 hbx9 (by decide) (by decide) (by decide) (by decide) (by decide) (by decide)
        obtain ⟨p0, p1, p2, p3, p4, p5, p6⟩ := BoxAt.cells hbox9
        have hfin9 : Below w.heap.size w w9 := Below.grown hB7 hg9 (Below.size hB7) (fun k hk => by injection hk with hk; omega)
        clear b0 b1 b2 b3 b4 b5 b6
        go_wp2_with fail
        exact bodyPost_ret (v := .tuple #[SV.val V7, .int .i64 (takeS p s i j n but).2, .int .i64 0]) (by simp [results, Try.results39, go_sem, SV.val, p0, p1, p2, p3, p4, p5, p6]) rfl (tkOk hfin.out (hO9.from_ hle) hfin9)
    · have hkd' : ((orderAt s.orders i).kind != 1) = true := by simpa using hkd
      have hfin := Lib.hid (show take p s i j n but = (dState, 0, 6) by rw [hin.out, if_pos (show (s.order i).kind ≠ 1 from hkd)])
      clear hkd
      have hbx9 := hR.out _ h1
      go_wp2_with (refine wpList_store_state rfl (.tmp 12) (.tmp 76) rfl rfl (w.heap.size + 1 + 1) nilSV nilSV hbx9 rfl rfl rfl (fun w9 hbox9 hg9 => ?_))
      obtain ⟨p0, p1, p2, p3, p4, p5, p6⟩ := BoxAt.cells hbox9
      have hfin9 : Below w.heap.size w w9 := Below.grown hB1 hg9 (Below.size hB1) (fun k hk => by injection hk with hk; omega)
      go_wp2_with fail
      exact bodyPost_ret (v := .tuple #[nilSV.val, .int .i64 0, .int .i64 6]) (by simp [results, Try.results39, go_sem, SV.val, p0, p1, p2, p3, p4, p5, p6]) rfl (tkErr hfin.out hfin9)
  · have hne : (checkState p s != 0) = true := by simpa using hc
    have hfin := Lib.hid (take_bad (o := o) (k := k) (n := n) (but := but) hc)
    clear hc
    have hbx9 := hR.out _ h1
    go_wp2_with (refine wpList_store_state rfl (.tmp 12) (.tmp 23) rfl rfl (w.heap.size + 1 + 1) nilSV nilSV hbx9 rfl rfl rfl (fun w9 hbox9 hg9 => ?_))
    obtain ⟨p0, p1, p2, p3, p4, p5, p6⟩ := BoxAt.cells hbox9
    have hfin9 : Below w.heap.size w w9 := Below.grown hB1 hg9 (Below.size hB1) (fun k hk => by injection hk with hk; omega)
    go_wp2_with fail
    exact bodyPost_ret (v := .tuple #[nilSV.val, .int .i64 0, .int .i64 (checkState p s)]) (by simp [results, Try.results39, go_sem, SV.val, p0, p1, p2, p3, p4, p5, p6]) rfl (tkErr hfin.out hfin9)
end Wh
namespace Wh
open Go Go.RowKit
section
variable {P : Program} {l : List Oper} {n : Nat} {R : Nat → Nat → (Nat → Value) → World → Prop} {Q : Exit → Act → World → Prop} {a : Act} {w : World}
def phN (b1 b2 : Nat) (listed : Array Bool) : Nat := (if listed.getD b1 false = true then 1 else 0) + (if listed.getD b2 false = true then 1 else 0)
def stepN (b1 b2 i ph : Nat) : Nat := if i = b1 then 1 else if i = b2 then 2 else ph
def bkN (b1 b2 k : Nat) : Nat := if k = 0 then b1 else b2
/-- What is to be shown of one operation. -/
def StepPh (P : Program) (l : List Oper) (n : Nat) (R : Nat → Nat → (Nat → Value) → World → Prop) (Q : Exit → Act → World → Prop) (a : Act) (T : World → Prop) (Eb : Nat → World → World → Prop) (b1 b2 i : Nat) (o : Oper) : Prop :=
  ∀ ph f w', T w' → (i = b1 → ph = 0) → (i = b2 → ph = 1) → Deps n (R ph) f w' o →
    o.wp P (fillA a (l.take n) f) w' (fun a' w'' => ∃ v, a' = (fillA a (l.take n) f).put o.dst v ∧ R (stepN b1 b2 i ph) i (updO f o.dst v) w'' ∧ ((i ≠ b1 ∧ i ≠ b2 ∧ Below w'.heap.size w' w'') ∨ (i = b1 ∧ Eb 0 w' w'') ∨ (i = b2 ∧ Eb 1 w' w''))) Q
theorem ph_run {T : World → Prop} {Eb : Nat → World → World → Prop} {b1 b2 : Nat} (hb12 : b1 ≠ b2) (h1n : b1 < n) (h2n : b2 < n) (hw : ∀ o, l[b2]? = some o → ∃ e ∈ o.after, Region.binds .any e = true ∧ e.on = b1) (hT1 : ∀ w1 w2, T w1 → Below w1.heap.size w1 w2 → T w2) (hT2 : ∀ k w1 w2, T w1 → Eb k w1 w2 → T w2) (hle : n ≤ l.length) (hwait : ∀ listed, HeadInv .any l.toArray n listed → ∀ i, i < n → listed.getD i true = false → ∀ t, n ≤ t → t ∉ Region.ready .any l.toArray listed) (hseq : Region.seqB .any l.toArray (l.length - n) n (heads l.length n) = true)
    (hg : ∀ i o, i < n → l[i]? = some o → o.guard = none) (hnd : ((l.take n).filterMap (·.dst)).Nodup) (hback : ∀ i o, i < n → l[i]? = some o → ∀ e ∈ o.after, Region.binds .any e = true → e.on < i)
    (hst : ∀ ph i g w1 w2, R ph i g w1 → Below w1.heap.size w1 w2 → R ph i g w2) (hst2 : ∀ k i g w1 w2, k ≤ 1 → i ≠ bkN b1 b2 k → R k i g w1 → Eb k w1 w2 → R (k + 1) i g w2) (hsup : ∀ ph i g g' w, (∀ j o d, Anc l j i → l[j]? = some o → o.dst = some d → g d = g' d) → R ph i g w → R ph i g' w) (hsteps : ∀ i o, i < n → l[i]? = some o → StepPh P l n R Q a T Eb b1 b2 i o)
    (hend : ∀ f w', T w' → (∀ i, i < n → R 2 i f w') → wpList P l.toArray Q (l.drop n) (fillA a (l.take n) f) w') :
    ∀ (k : Nat) (listed : Array Bool) (f : Nat → Value) (w' : World), HeadInv .any l.toArray n listed → unl listed n = k → T w' → (∀ i, i < n → listed.getD i false = true → R (phN b1 b2 listed) i f w') →
      wpAny P .any l.toArray Q (k + (l.length - n)) listed (fillA a (l.take n) f) w'
  | 0, listed, f, w', inv, hk, hb, hR => by
    have hsz : listed.size = l.length := by rw [inv.size]; simp
    have he : listed = heads l.length n := by
      apply Array.ext_getElem?
      intro i
      unfold heads
      rw [Array.getElem?_append]
      simp only [Array.size_replicate]
      by_cases hi : i < n
      · rw [if_pos hi]
        have h1 := unl_zero hk hi
        have h2 : i < listed.size := by omega
        simp [hi, h2, Array.getD] at h1 ⊢
        exact h1
      · rw [if_neg hi]
        by_cases hl : i < l.length
        · have h1 := inv.tail i (by omega) (by simpa using hl)
          have h2 : i < listed.size := by omega
          have h3 : i - n < l.length - n := by omega
          simp [h2, h3, Array.getD] at h1 ⊢
          exact h1
        · rw [Array.getElem?_eq_none (by omega), Array.getElem?_eq_none (by simp; omega)]
    have hd : l.length - n = (l.drop n).length := by simp
    have h3 : phN b1 b2 listed = 2 := by
      have key : ∀ b, b < n → listed.getD b false = true := fun b hb => by
        have h1 := unl_zero hk hb
        have h2 : b < listed.size := by omega
        simp [h2, Array.getD] at h1 ⊢
        exact h1
      unfold phN
      rw [if_pos (key _ h1n), if_pos (key _ h2n)]
    rw [h3] at hR
    rw [Nat.zero_add, hd]
    refine wpAny_of_seq (l.drop n) n listed _ w' (fun j => by simp [List.getElem?_drop]) (by rw [he, ← hd]; exact hseq) (hend f w' hb fun i hin => hR i hin ?_)
    have h1 := unl_zero hk hin
    have h2 : i < listed.size := by omega
    simp [h2, Array.getD] at h1 ⊢
    exact h1
  | k + 1, listed, f, w', inv, hk, hb, hR => by
    have hsz : listed.size = l.length := by rw [inv.size]; simp
    obtain ⟨i0, hi0, hu0⟩ := unl_pos (show 0 < unl listed n by omega)
    have hne : ∀ i, i < n → listed.getD i true = false → Region.ready .any l.toArray listed ≠ [] := by
      intro i
      induction i using Nat.strongRecOn with
      | _ i ih =>
        intro hin hu
        have hil : i < l.length := by omega
        by_cases hall : ∀ e ∈ (l[i]).after, Region.binds .any e = true → listed.getD e.on false = true
        · have : i ∈ Region.ready .any l.toArray listed := mem_ready.2 ⟨hu, l[i], by simp [hil], hall⟩
          intro h0
          rw [h0] at this
          cases this
        · simp only [Classical.not_forall] at hall
          obtain ⟨e, he, hbd, hno⟩ := hall
          have hlt := hback i l[i] hin (by simp [hil]) e he hbd
          exact ih e.on hlt (by omega) (getD_in (by omega) (by simpa using hno))
    rw [show k + 1 + (l.length - n) = (k + (l.length - n)) + 1 by omega]
    refine ⟨fun h0 => absurd h0 (hne i0 hi0 hu0), fun i hi => ?_⟩
    have hin : i < n := by
      rcases Nat.lt_or_ge i n with h | h
      · exact h
      · exact absurd hi (hwait listed inv i0 hi0 hu0 i h)
    obtain ⟨hu, o, ho, hall⟩ := mem_ready.1 hi
    have ho' : l[i]? = some o := by simpa using ho
    have hgd := hg i o hin ho'
    have hoff : i = b1 → listed.getD b1 false = false ∧ listed.getD b2 false = false := fun e => by
      have h1 : listed.getD b1 false = false := by rw [← e]; exact getD_both hu
      refine ⟨h1, ?_⟩
      cases h2 : listed.getD b2 false
      · rfl
      · have hl2 : b2 < l.length := by omega
        obtain ⟨e', he', hbd, hon⟩ := hw l[b2] (by simp [hl2])
        have := inv.closed b2 l[b2] (by simp [hl2]) h2 e' he' hbd
        rw [hon, h1] at this
        cases this
    have hoff2 : i = b2 → listed.getD b1 false = true ∧ listed.getD b2 false = false := fun e => by
      have h2 : listed.getD b2 false = false := by rw [← e]; exact getD_both hu
      obtain ⟨e', he', hbd, hon⟩ := hw o (by rw [← e]; exact ho')
      have := hall e' he' hbd
      rw [hon] at this
      exact ⟨this, h2⟩
    have hph1 : i = b1 → phN b1 b2 listed = 0 := fun e => by
      obtain ⟨h1, h2⟩ := hoff e
      unfold phN
      rw [h1, h2]
      rfl
    have hph2 : i = b2 → phN b1 b2 listed = 1 := fun e => by
      obtain ⟨h1, h2⟩ := hoff2 e
      unfold phN
      rw [h1, h2]
      rfl
    have h1 := hsteps i o hin ho' (phN b1 b2 listed) f w' hb hph1 hph2 fun e he hbd hen => hR e.on hen (hall e he hbd)
    unfold wpOp
    simp only [ho]
    rw [if_pos (by simp [Region.wanted, hgd])]
    refine .inl (Oper.wp_mono ?_ h1)
    rintro a' w'' ⟨v, rfl, hv, hbw⟩
    have hcount : unl (listed.setIfInBounds i true) n = k := by
      have := unl_set hu n
      rw [if_pos hin] at this
      omega
    have hb2 : T w'' := by
      rcases hbw with ⟨_, _, hbw⟩ | ⟨_, hbw⟩ | ⟨_, hbw⟩
      · exact hT1 _ _ hb hbw
      · exact hT2 _ _ _ hb hbw
      · exact hT2 _ _ _ hb hbw
    have hph : phN b1 b2 (listed.setIfInBounds i true) = stepN b1 b2 i (phN b1 b2 listed) := by
      unfold phN stepN
      by_cases e1 : i = b1
      · obtain ⟨q1, q2⟩ := hoff e1
        subst e1
        rw [getD_set_self false (lt_of_unl hu), getD_set_ne false hb12, q2]
        simp
      · by_cases e2 : i = b2
        · obtain ⟨q1, q2⟩ := hoff2 e2
          subst e2
          rw [getD_set_self false (lt_of_unl hu), getD_set_ne false e1, q1]
          simp [e1]
        · rw [getD_set_ne false e1, getD_set_ne false e2, if_neg e1, if_neg e2]
    have hanc : ∀ j k, Anc l j k → k < n → listed.getD k false = true → j < n ∧ listed.getD j false = true := by
      intro j k h
      induction h with
      | self => exact fun h1 h2 => ⟨h1, h2⟩
      | back ho he hbd hon _ ih =>
        intro h1 h2
        subst hon
        have := hback _ _ h1 ho _ he hbd
        exact ih (by omega) (inv.closed _ _ (by simpa using ho) h2 _ he hbd)
    have hfin : (fillA a (l.take n) f).put o.dst v = fillA a (l.take n) (updO f o.dst v) := by
      cases hdst : o.dst with
      | none => rfl
      | some d0 =>
        unfold fillA Act.put updO
        simp only
        rw [fillT_put (dst_mem ho' hin hdst)]
    rw [hfin]
    refine ph_run hb12 h1n h2n hw hT1 hT2 hle hwait hseq hg hnd hback hst hst2 hsup hsteps hend k _ (updO f o.dst v) w'' (inv.set hi hin) hcount hb2 fun j hjn hl => ?_
    rw [hph]
    by_cases hij : i = j
    · subst hij
      exact hv
    · rw [getD_set_ne false hij] at hl
      refine hsup _ j f _ _ (fun j' oj d haj hoj hd => ?_) (by
        rcases hbw with ⟨hne, hne2, hbw⟩ | ⟨he, hbw⟩ | ⟨he, hbw⟩
        · unfold stepN
          rw [if_neg hne, if_neg hne2]
          exact hst _ _ _ _ _ (hR j hjn hl) hbw
        · have h0 := hR j hjn hl
          rw [hph1 he] at h0
          unfold stepN
          rw [if_pos he]
          exact hst2 0 _ _ _ _ (by omega) (fun e => hij (by rw [e]; exact he)) h0 hbw
        · have h0 := hR j hjn hl
          rw [hph2 he] at h0
          unfold stepN
          rw [if_neg (fun e => hb12 (e.symm.trans he)), if_pos he]
          exact hst2 1 _ _ _ _ (by omega) (fun e => hij (by rw [e]; exact he)) h0 hbw)
      obtain ⟨hjn', hlj'⟩ := hanc _ _ haj hjn hl
      cases hdst : o.dst with
      | none => rfl
      | some d0 =>
        have hne : i ≠ j' := fun e => by
          subst e
          rw [getD_both hu] at hlj'
          cases hlj'
        have hdd := dst_ne hnd ho' hin hdst hoj hjn' hd hne
        unfold updO upd
        simp only
        rw [if_neg (fun e => hdd e.symm)]

theorem wp_region_ph (n : Nat) (T : World → Prop) (Eb : Nat → World → World → Prop) (b1 b2 : Nat) (hb12 : b1 ≠ b2) (h1n : b1 < n) (h2n : b2 < n) (hw : ∀ o, l[b2]? = some o → ∃ e ∈ o.after, Region.binds .any e = true ∧ e.on = b1) (R : Nat → Nat → (Nat → Value) → World → Prop) {id : Nat} (hm : P.follows .mixedOrders = true) (hB : relB l n = true) (hT1 : ∀ w1 w2, T w1 → Below w1.heap.size w1 w2 → T w2) (hT2 : ∀ k w1 w2, T w1 → Eb k w1 w2 → T w2) (hT0 : T w.drew)
    (hst : ∀ ph i g w1 w2, R ph i g w1 → Below w1.heap.size w1 w2 → R ph i g w2) (hst2 : ∀ k i g w1 w2, k ≤ 1 → i ≠ bkN b1 b2 k → R k i g w1 → Eb k w1 w2 → R (k + 1) i g w2)
    (hsup : ∀ ph i g g' w, (∀ j o d, Anc l j i → l[j]? = some o → o.dst = some d → g d = g' d) → R ph i g w → R ph i g' w) (hsteps : ∀ i o, i < n → l[i]? = some o → StepPh P l n R Q a T Eb b1 b2 i o)
    (hend : ∀ f w', T w' → (∀ i, i < n → R 2 i f w') → wpList P l.toArray Q (l.drop n) (fillA a (l.take n) f) w') : (Code.region id l.toArray true).wp P Q a w := by
  simp only [relB, Bool.and_eq_true, Bool.or_eq_true, decide_eq_true_eq, List.all_eq_true] at hB
  obtain ⟨⟨⟨⟨hww, hseq⟩, hg⟩, hnd⟩, hback⟩ := hB
  have hle : n ≤ l.length := by rcases hww with h | h <;> omega
  have hat : ∀ i o, i < n → l[i]? = some o → o ∈ l.take n := fun i o hin hi => by
    rw [List.mem_iff_getElem?]
    exact ⟨i, by rw [List.getElem?_take]; simp [hin, hi]⟩
  refine wp_region_any hm ?_
  have H := ph_run (P := P) (Q := Q) (a := a) hb12 h1n h2n hw hT1 hT2 hle ?_ hseq (fun i o hin hi => by simpa using hg o (hat i o hin hi)) hnd ?_ hst hst2 hsup hsteps hend n (Array.replicate l.toArray.size false) (fun d => a.tmps.getD d undef) w.drew
    ⟨by simp, fun j oj _ hl => (by rw [getD_replicate_false] at hl; cases hl), fun t _ ht => getD_in (by simpa using ht) (getD_replicate_false _ _)⟩ ?_ hT0 (fun i _ hl => by rw [getD_replicate_false] at hl; cases hl)
  · have e : fillA a (l.take n) (fun d => a.tmps.getD d undef) = a := by
      unfold fillA
      rw [fillT_self]
    rw [e] at H
    have hs : n + (l.length - n) = l.toArray.size := by simp; omega
    rw [hs] at H
    exact H
  · intro listed inv i hin hu t ht hr
    rcases hww with h | ⟨⟨h1, h2⟩, h3⟩
    · obtain ⟨_, o, ho, _⟩ := mem_ready.1 hr
      have := (Array.getElem?_eq_some_iff.1 ho).1
      simp at this
      omega
    · exact tail_waits h2 h3 (by simpa using h1) inv (n - i) i rfl hin hu t ht hr
  · intro i o hin hi e he hbd
    have := hback i (List.mem_range.2 hin)
    rw [hi] at this
    simp only [Option.map_some, Option.getD_some, Array.all_eq_true_iff_forall_mem, Bool.or_eq_true, Bool.not_eq_true', decide_eq_true_eq] at this
    rcases this e he with h | h
    · rw [h] at hbd; cases hbd
    · exact h
  · have key : ∀ m, m ≤ l.length → unl (Array.replicate l.toArray.size false) m = m := by
      intro m
      induction m with
      | zero => intro _; rfl
      | succ m ih =>
        intro hm
        have := ih (by omega)
        unfold unl at this ⊢
        have hml : m < l.length := by omega
        rw [List.range_succ, List.countP_append, this]
        simp [hml]
    exact key n hle
theorem StepPh.of {T : World → Prop} {Eb : Nat → World → World → Prop} {b1 b2 : Nat} {i : Nat} {o : Oper} (hi : i < n) (hB : relB l n = true) (hsz : ((l.take n).filterMap (·.dst)).all (fun d => decide (d < a.tmps.size)) = true)
    (hsup : ∀ ph i g g' w, (∀ j o d, Anc l j i → l[j]? = some o → o.dst = some d → g d = g' d) → R ph i g w → R ph i g' w)
    (h : ∀ ph (g : Nat → Value) w', T w' → (i = b1 → ph = 0) → (i = b2 → ph = 1) → (∀ d, ((l.take n).filterMap (·.dst)).contains d = false → g d = a.tmps.getD d undef) → Deps n (R ph) g w' o → OpRel P o (evL g) w' fun v w'' => R (stepN b1 b2 i ph) i (updO g o.dst v) w'' ∧ ((i ≠ b1 ∧ i ≠ b2 ∧ Below w'.heap.size w' w'') ∨ (i = b1 ∧ Eb 0 w' w'') ∨ (i = b2 ∧ Eb 1 w' w''))) :
    StepPh P l n R Q a T Eb b1 b2 i o := by
  simp only [relB, Bool.and_eq_true, Bool.or_eq_true, decide_eq_true_eq, List.all_eq_true] at hB
  obtain ⟨_, hback⟩ := hB
  have hback' : ∀ k oe, k < n → l[k]? = some oe → ∀ e ∈ oe.after, Region.binds .any e = true → e.on < k := fun k oe hk hoe e he hbd => by
    have := hback k (List.mem_range.2 hk)
    rw [hoe] at this
    simp only [Option.map_some, Option.getD_some, Array.all_eq_true_iff_forall_mem, Bool.or_eq_true, Bool.not_eq_true', decide_eq_true_eq] at this
    rcases this e he with h | h
    · rw [h] at hbd; cases hbd
    · exact h
  have hanc : ∀ j k, Anc l j k → k < n → j < n := by
    intro j k h
    induction h with
    | self => exact id
    | back ho he hbd hon _ ih =>
      intro h1
      subst hon
      have := hback' _ _ h1 ho _ he hbd
      exact ih (by omega)
  have hsz' : ∀ d ∈ (l.take n).filterMap (·.dst), d < a.tmps.size := fun d hd => by
    have := List.all_eq_true.1 hsz d hd
    simpa using this
  intro ph f w' hb hj hj2 hd
  have hg : ∀ d ∈ (l.take n).filterMap (·.dst), (fillA a (l.take n) f).tmps.getD d undef = f d := fun d hd => by
    have h1 := fillT_get ((l.take n).filterMap (·.dst)) f a.tmps d
    rw [if_pos (hsz' d hd), if_pos hd] at h1
    unfold fillA
    simp only [Array.getD_eq_getD_getElem?, h1, Option.getD_some]
  have ho : ∀ d, ((l.take n).filterMap (·.dst)).contains d = false → (fillA a (l.take n) f).tmps.getD d undef = a.tmps.getD d undef := fun d hd => by
    have h1 := fillT_get ((l.take n).filterMap (·.dst)) f a.tmps d
    have h2 : d ∉ (l.take n).filterMap (·.dst) := by simpa using hd
    rw [if_neg h2] at h1
    unfold fillA
    simp only [Array.getD_eq_getD_getElem?, h1]
    by_cases hl : d < a.tmps.size
    · rw [if_pos hl]
    · rw [if_neg hl, Array.getElem?_eq_none (Nat.le_of_not_lt hl)]
  have key := h ph (fun d => (fillA a (l.take n) f).tmps.getD d undef) w' hb hj hj2 ho (fun e he hbd hen => hsup _ e.on f _ _ (fun j oj d haj hoj hdj => (hg d (dst_mem hoj (hanc _ _ haj hen) hdj)).symm) (hd e he hbd hen))
  rw [← evL_eval] at key
  refine Oper.wp_mono ?_ key.wp
  rintro a' w'' ⟨v, rfl, hr, hbw⟩
  refine ⟨v, rfl, hsup _ i _ _ _ (fun j oj d haj hoj hdj => ?_) hr, hbw⟩
  have hjn := hanc _ _ haj hi
  have hmem := dst_mem hoj hjn hdj
  cases hdst : o.dst with
  | none => exact hg d hmem
  | some d0 =>
    unfold updO upd
    simp only
    split
    · rfl
    · exact hg d hmem

def atP (Rs : List (Nat → RelP)) (ph : Nat) (i : Nat) : RelP := Rs.getD i (fun _ _ _ => True) ph
/-- One operation: what it says stays, hangs on what came before it alone, and comes. -/
def OpPh (P : Program) (l : List Oper) (n : Nat) (Rs : List (Nat → RelP)) (a : Act) (T : World → Prop) (Eb : Nat → World → World → Prop) (b1 b2 i : Nat) (o : Oper) (p : Nat → RelP) : Prop :=
  (∀ ph g w1 w2, p ph g w1 → Below w1.heap.size w1 w2 → p ph g w2) ∧ (∀ k, k ≤ 1 → i ≠ bkN b1 b2 k → ∀ g w1 w2, p k g w1 → Eb k w1 w2 → p (k + 1) g w2) ∧ (∀ ph g g' w, (∀ j o d, Anc l j i → l[j]? = some o → o.dst = some d → g d = g' d) → p ph g w → p ph g' w) ∧
  ∀ ph g w', T w' → (i = b1 → ph = 0) → (i = b2 → ph = 1) → (∀ d, ((l.take n).filterMap (·.dst)).contains d = false → g d = a.tmps.getD d undef) → Deps n (atP Rs ph) g w' o →
    OpRel P o (evL g) w' fun v w'' => p (stepN b1 b2 i ph) (updO g o.dst v) w'' ∧ ((i ≠ b1 ∧ i ≠ b2 ∧ Below w'.heap.size w' w'') ∨ (i = b1 ∧ Eb 0 w' w'') ∨ (i = b2 ∧ Eb 1 w' w''))
def OpsPh (P : Program) (l : List Oper) (n : Nat) (Rs : List (Nat → RelP)) (a : Act) (T : World → Prop) (Eb : Nat → World → World → Prop) (b1 b2 : Nat) : Nat → List Oper → List (Nat → RelP) → Prop
  | _, [], _ => True
  | _, _ :: _, [] => False
  | i, o :: r, p :: ps => OpPh P l n Rs a T Eb b1 b2 i o p ∧ OpsPh P l n Rs a T Eb b1 b2 (i + 1) r ps
section
variable {Rs : List (Nat → RelP)} {T : World → Prop} {Eb : Nat → World → World → Prop} {b1 b2 : Nat}
theorem OpsPh.at : ∀ {r : List Oper} {ps : List (Nat → RelP)} {k : Nat}, OpsPh P l n Rs a T Eb b1 b2 k r ps → ∀ {j : Nat} {o : Oper}, r[j]? = some o → OpPh P l n Rs a T Eb b1 b2 (k + j) o (ps.getD j (fun _ _ _ => True))
  | [], _, _, _, _, _, h => by simp at h
  | _ :: _, [], _, h, _, _, _ => h.elim
  | x :: r, p :: ps, k, h, 0, o, hj => by
    simp at hj
    subst hj
    exact h.1
  | x :: r, p :: ps, k, h, j + 1, o, hj => by
    have := OpsPh.at h.2 (j := j) (o := o) (by simpa using hj)
    rw [show k + 1 + j = k + (j + 1) by omega] at this
    simpa using this
theorem OpsPh.nil {i : Nat} {ps : List (Nat → RelP)} : OpsPh P l n Rs a T Eb b1 b2 i [] ps := by cases ps <;> trivial
theorem OpsPh.cons {i : Nat} {o : Oper} {r : List Oper} {p : Nat → RelP} {ps : List (Nat → RelP)} (h : OpPh P l n Rs a T Eb b1 b2 i o p) (h' : OpsPh P l n Rs a T Eb b1 b2 (i + 1) r ps) : OpsPh P l n Rs a T Eb b1 b2 i (o :: r) (p :: ps) := ⟨h, h'⟩
end
theorem wp_region_opsP (n : Nat) (T : World → Prop) (Eb : Nat → World → World → Prop) (b1 b2 : Nat) (hb12 : b1 ≠ b2) (h1n : b1 < n) (h2n : b2 < n) (hw : ∀ o, l[b2]? = some o → ∃ e ∈ o.after, Region.binds .any e = true ∧ e.on = b1) (Rs : List (Nat → RelP)) {id : Nat} (hm : P.follows .mixedOrders = true) (hB : relB l n = true) (hn : Rs.length = n) (hsz : ((l.take n).filterMap (·.dst)).all (fun d => decide (d < a.tmps.size)) = true)
    (hT1 : ∀ w1 w2, T w1 → Below w1.heap.size w1 w2 → T w2) (hT2 : ∀ k w1 w2, T w1 → Eb k w1 w2 → T w2) (hT0 : T w.drew)
    (hops : OpsPh P l n Rs a T Eb b1 b2 0 (l.take n) Rs) (hend : ∀ f w', T w' → AllR (Rs.map fun p => p 2) f w' → wpList P l.toArray Q (l.drop n) (fillA a (l.take n) f) w') : (Code.region id l.toArray true).wp P Q a w := by
  have hle : n ≤ l.length := by
    have := hB
    simp only [relB, Bool.and_eq_true, Bool.or_eq_true, decide_eq_true_eq] at this
    rcases this.1.1.1.1 with h | h <;> omega
  have hat : ∀ i, i < n → ∃ o, l[i]? = some o ∧ OpPh P l n Rs a T Eb b1 b2 i o (fun ph => atP Rs ph i) := fun i hi => by
    have hil : i < l.length := by omega
    refine ⟨l[i], by simp [hil], ?_⟩
    have := hops.at (j := i) (o := l[i]) (by rw [List.getElem?_take]; simp [hi, hil])
    rwa [Nat.zero_add] at this
  have htriv : ∀ ph i g w, ¬ i < n → atP Rs ph i g w := fun ph i g w hi => by
    unfold atP
    rw [List.getD_eq_getElem?_getD, List.getElem?_eq_none (by omega)]
    trivial
  have hsup : ∀ ph i g g' w, (∀ j o d, Anc l j i → l[j]? = some o → o.dst = some d → g d = g' d) → atP Rs ph i g w → atP Rs ph i g' w := fun ph i g g' w1 he h => by
    by_cases hi : i < n
    · obtain ⟨o, _, _, _, h2, _⟩ := hat i hi
      exact h2 ph g g' w1 he h
    · exact htriv ph i g' w1 hi
  refine wp_region_ph n T Eb b1 b2 hb12 h1n h2n hw (atP Rs) hm hB hT1 hT2 hT0 (fun ph i g w1 w2 h hb => ?_) (fun k i g w1 w2 hk hne h hb => ?_) hsup (fun i o hi ho => ?_) (fun f w' hb hR => hend f w' hb (AllR.of fun i hi => ?_))
  · by_cases hi : i < n
    · obtain ⟨o, _, h1, _⟩ := hat i hi
      exact h1 ph g w1 w2 h hb
    · exact htriv ph i g w2 hi
  · by_cases hi : i < n
    · obtain ⟨o, _, _, h1, _⟩ := hat i hi
      exact h1 k hk hne g w1 w2 h hb
    · exact htriv (k + 1) i g w2 hi
  · obtain ⟨o', ho', _, _, _, h3⟩ := hat i hi
    rw [ho] at ho'
    injection ho' with ho'
    subst ho'
    exact StepPh.of hi hB hsz hsup h3
  · rw [List.length_map, hn] at hi
    have h := hR i hi
    have hl : i < Rs.length := by omega
    simp only [atP, atR, List.getD_eq_getElem?_getD, List.getElem?_map, List.getElem?_eq_getElem hl, Option.map_some, Option.getD_some] at h ⊢
    exact h
section
variable {Rs : List (Nat → RelP)} {T : World → Prop} {Eb : Nat → World → World → Prop} {b1 b2 : Nat}
theorem OpPh.val {i d : Nat} {o : Oper} {c : Value} (hi : l[i]? = some o) (ho : o.dst = some d) (hne : i ≠ b1) (hne2 : i ≠ b2)
    (h : ∀ ph g w', T w' → (∀ d, ((l.take n).filterMap (·.dst)).contains d = false → g d = a.tmps.getD d undef) → Deps n (atP Rs ph) g w' o → (execOp (evL g) o).run P w' = .ok (.value c) w') :
    OpPh P l n Rs a T Eb b1 b2 i o (fun _ g _ => g d = c) := by
  refine ⟨fun _ _ _ _ h _ => h, fun _ _ _ _ _ _ h _ => h, fun _ g g' _ he h => (he i o d (Anc.self i) hi ho).symm.trans h, fun ph g w' hb _ _ hout hd => ?_⟩
  unfold OpRel
  rw [h ph g w' hb hout hd]
  refine ⟨?_, .inl ⟨hne, hne2, Below.refl _ _⟩⟩
  rw [ho]
  unfold updO upd
  simp
theorem OpPh.one {i d : Nat} {o : Oper} {p : Nat → Value → World → Prop} (hi : l[i]? = some o) (ho : o.dst = some d) (hne : i ≠ b1) (hne2 : i ≠ b2) (hst : ∀ ph v w1 w2, p ph v w1 → Below w1.heap.size w1 w2 → p ph v w2) (hst2 : ∀ k v w1 w2, k ≤ 1 → p k v w1 → Eb k w1 w2 → p (k + 1) v w2)
    (h : ∀ ph g w', T w' → (∀ d, ((l.take n).filterMap (·.dst)).contains d = false → g d = a.tmps.getD d undef) → Deps n (atP Rs ph) g w' o → OpRel P o (evL g) w' fun v w'' => p ph v w'' ∧ Below w'.heap.size w' w'') :
    OpPh P l n Rs a T Eb b1 b2 i o (fun ph g w => p ph (g d) w) := by
  refine ⟨fun ph g w1 w2 h hb => hst _ _ _ _ h hb, fun k hk _ g w1 w2 h hb => hst2 k _ _ _ hk h hb, fun ph g g' w1 he h => ?_, fun ph g w' hb _ _ hout hd => ?_⟩
  · show p ph (g' d) w1
    rw [← he i o d (Anc.self i) hi ho]
    exact h
  · have h1 := h ph g w' hb hout hd
    unfold stepN
    rw [ho, if_neg hne, if_neg hne2]
    have e : ∀ v, updO g (some d) v d = v := fun v => by unfold updO upd; simp
    simp only [e]
    exact OpRel.mono (fun v w'' h => ⟨h.1, .inl ⟨hne, hne2, h.2⟩⟩) h1
/-- The first operation that writes. -/
theorem OpPh.first {d : Nat} {o : Oper} {p : Nat → Value → World → Prop} (hi : l[b1]? = some o) (ho : o.dst = some d) (hst : ∀ ph v w1 w2, p ph v w1 → Below w1.heap.size w1 w2 → p ph v w2) (hst2 : ∀ v w1 w2, p 1 v w1 → Eb 1 w1 w2 → p 2 v w2)
    (h : ∀ g w', T w' → (∀ d, ((l.take n).filterMap (·.dst)).contains d = false → g d = a.tmps.getD d undef) → Deps n (atP Rs 0) g w' o → OpRel P o (evL g) w' fun v w'' => p 1 v w'' ∧ Eb 0 w' w'') :
    OpPh P l n Rs a T Eb b1 b2 b1 o (fun ph g w => p ph (g d) w) := by
  refine ⟨fun ph g w1 w2 h hb => hst _ _ _ _ h hb, fun k hk hne g w1 w2 h hb => ?_, fun ph g g' w1 he h => ?_, fun ph g w' hb hph _ hout hd => ?_⟩
  · rcases (show k = 0 ∨ k = 1 by omega) with rfl | rfl
    · exact absurd rfl hne
    · exact hst2 _ _ _ h hb
  · show p ph (g' d) w1
    rw [← he b1 o d (Anc.self b1) hi ho]
    exact h
  · obtain rfl := hph rfl
    have h1 := h g w' hb hout hd
    have e1 : stepN b1 b2 b1 0 = 1 := if_pos rfl
    have e : ∀ v, updO g (some d) v d = v := fun v => by unfold updO upd; simp
    rw [ho, e1]
    refine OpRel.mono (fun v w'' h => ⟨?_, .inr (.inl ⟨rfl, h.2⟩)⟩) h1
    show p 1 (updO g (some d) v d) w''
    rw [e]
    exact h.1
/-- The second operation that writes, a store. -/
theorem OpPh.second {o : Oper} {p : (Nat → Value) → World → Prop} (hb12 : b1 ≠ b2) (ho : o.dst = none) (hst : ∀ g w1 w2, p g w1 → Below w1.heap.size w1 w2 → p g w2)
    (hsup : ∀ g g' w, (∀ j o d, Anc l j b2 → l[j]? = some o → o.dst = some d → g d = g' d) → p g w → p g' w)
    (h : ∀ g w', T w' → (∀ d, ((l.take n).filterMap (·.dst)).contains d = false → g d = a.tmps.getD d undef) → Deps n (atP Rs 1) g w' o → OpRel P o (evL g) w' fun _ w'' => p g w'' ∧ Eb 1 w' w'') :
    OpPh P l n Rs a T Eb b1 b2 b2 o (fun ph g w => ph = 2 ∧ p g w) := by
  refine ⟨fun ph g w1 w2 h hb => ⟨h.1, hst _ _ _ h.2 hb⟩, fun k hk hne g w1 w2 h hb => ?_, fun ph g g' w1 he h => ⟨h.1, hsup g g' w1 he h.2⟩, fun ph g w' hb _ hph hout hd => ?_⟩
  · exact absurd h.1 (by omega)
  · obtain rfl := hph rfl
    have h1 := h g w' hb hout hd
    have e1 : stepN b1 b2 b2 1 = 2 := by unfold stepN; rw [if_neg (fun e => hb12 e.symm), if_pos rfl]
    rw [ho, e1]
    exact OpRel.mono (fun v w'' h => ⟨⟨rfl, h.1⟩, .inr (.inr ⟨rfl, h.2⟩)⟩) h1
end
end
end Wh
namespace Wh
open Go Go.RowKit Go.Shelf Go.Proofs
attribute [local go_sem] run_indexAt_letter evL_tmp evL_const evL_func

theorem opRel_store_state {o : Oper} {ev : Operand → Value} {w : World} {K : Value → World → Prop} (x y : Operand) (ho : o.op = .store 31 x y) (b : Nat) (V V' : SV) (hbox : BoxAt w b V) (hx : ev x = .pointer (some ⟨b, 0, none⟩)) (hy : ev y = V'.val) (h1 : V'.cells.all (fun u => u.oneCell') = true)
    (h : ∀ w', BoxAt w' b V' → w.grownBy w' (some b) → K undef w') : OpRel Try.prog o ev w K := by
  have hr := run_storeVar_row (P := Try.prog) w b 31 31 V.cells.toArray V'.cells.toArray hbox (by kernel_rfl) rfl (by simpa using h1)
  have hk := h _ (hbox.blk.row V'.cells) (grown_row w b V'.cells.toArray)
  have hy' : ev y = .agg V'.cells.toArray := hy
  unfold OpRel execOp
  simp only [ho, hx, hy', Instr.storeAt, Instr.sureAddr, Sem.run_bind, Sem.run_pure, Result.andThen_ok, hr]
  exact hk
/-- What holds before any writing, and behind the first. -/
def phs (A B : Value → World → Prop) : Nat → Value → World → Prop
  | 0 => A
  | _ => B
/-- What the first writing leaves: old blocks, and each state's box; the second: old blocks. -/
def KeepSt (B : Nat) (k : Nat) (w1 w2 : World) : Prop := Below B w1 w2 ∧ (k = 0 → ∀ b V, BoxAt w1 b V → BoxAt w2 b V) ∧ (k = 1 → ∀ base V s, OwnSt w1 base V s → OwnSt w2 base V s)
theorem keepSt_of {w1 w2 : World} {base i : Nat} {V : SV} {s : State} (ho : OwnSt w1 base V s) (hi : i < s.orders.length) (hs : Step (fun j => (V.line i).ownBlock = some j) w1 w2) (hB : base ≤ w1.heap.size) : KeepSt base 0 w1 w2 := by
  refine ⟨hs.below (fun k hk => ((ho.line i hi).size k hk).1) hB, fun _ b V' hb => hs.heap hb fun hk => ?_, fun h => by cases h⟩
  obtain ⟨cur, hc⟩ := (ho.line i hi).block hk
  have h2 : w1.heap[b]? = _ := hb
  rw [hc] at h2
  injection h2 with h2
  injection h2 with _ h2
  exact absurd h2 (by decide)
theorem keepSt_box {w1 w2 : World} {B b : Nat} {V : SV} (hb : BoxAt w1 b V) (hB : B ≤ b) (hg : w1.grownBy w2 (some b)) : KeepSt B 1 w1 w2 := by
  have h1 : Below B w1 w2 := (Below.refl B w1).grown hg (Nat.le_trans hB (Nat.le_of_lt hb.lt)) (fun k hk => by injection hk with hk; omega)
  have h2 : ∀ base V s, OwnSt w1 base V s → OwnSt w2 base V s := fun _ _ _ h => h.keptBy hg hb.blk (by decide) (by decide) (by decide) (by decide) (by decide) (by decide)
  exact ⟨h1, fun h => absurd h (by decide), fun _ => h2⟩

theorem withinAt {n lo hi : Int} {b : Bool} (h : within n lo hi = b) (w : World) : Calls Try.prog 45 #[.int .i64 n, .int .i64 lo, .int .i64 hi] w fun e w' => e = .returned (.bool b) ∧ w = w' := by
  have := rWithin n lo hi w
  rwa [h] at this

set_option maxHeartbeats 8000000 in
set_option maxRecDepth 100000 in
theorem rTakeOf (w : World) (v vs : Value) (p : Plan) (s : State) (o k n but : Int) (hp : PlanV w w.heap.size v p) (hv : StateV w w.heap.size vs s) :
    Calls Try.prog 40 #[v, vs, .int .i64 o, .int .i64 k, .int .i64 n, .int .i64 but] w (TkPost (take p s o k n but) w) := by
  obtain ⟨Ab, cb, As, cs, rfl, hP', hBn, hSz, hlb, hls⟩ := openPl hp
  obtain ⟨A0, c0, A1, c1, A2, c2, A3, c3, A4, c4, A5, c5, A6, c6, rfl, hV, hN, hO, hH, hM, hI, hU, hX, hl0, hl1, hl2, hl3, hl4, hl5, hl6⟩ := openOne hv
  go_enter Try.func40, Try.ntmps40
  go_wp2_with fail
  obtain ⟨W0, hW0, hb0, hsz0, hsz1, hsE, hK, hR⟩ := boxesAct w p s Ab cb As cs A0 c0 A1 c1 A2 c2 A3 c3 A4 c4 A5 c5 A6 c6
  rw [hW0]
  clear hW0
  obtain ⟨⟨y0, y1⟩, x0, x1, x2, x3, x4, x5, x6, hbz0, hbz1⟩ := hK.out W0 (Below.refl W0.heap.size W0)
  go_wp2_with fail
  clear y0 y1 x0 x1 x2 x3 x4 x5 x6 hbz0 hbz1
  refine (rCheckState _ _ _ p s (hP'.out _ hb0) (hV.out _ hb0)).mono ?_
  rintro e W1 ⟨rfl, h1⟩
  have hB1 := hb0.trans (h1.mono hb0.size)
  obtain ⟨⟨y0, y1⟩, x0, x1, x2, x3, x4, x5, x6, hbz0, hbz1⟩ := hK.out W1 (h1)
  by_cases hc : checkState p s = 0
  · have hc' := Lib.hid hc
    have hsn := Lib.hid (checkState_zero.1 hc).1
    rw [hc]
    clear hc
    have hcnt := hsn.out.counts
    have ho4 := hsn.out.orders4
    have hw4 : IntKind.i64.wrap ((s.orders.length : Int) - 1) = (s.orders.length : Int) - 1 := IntWalk.i64_in _ (by omega)
    cases g1 : within o 0 ((s.orders.length : Int) - 1)
    · have hfin := Lib.hid (take_range (p := p) (s := s) (o := o) (k := k) (n := n) (but := but) hc'.out (by have := within_false.1 g1; omega))
      go_wp2_with fail
      refine (withinAt g1 _).mono ?_
      rintro e w' ⟨rfl, rfl⟩
      clear g1
      have hbx9 := hR.out _ h1
      go_wp2_with (refine wpList_store_state rfl (.tmp 12) (.tmp 60) rfl rfl (w.heap.size + 1 + 1) nilSV nilSV hbx9 rfl rfl rfl (fun w9 hbox9 hg9 => ?_))
      obtain ⟨p0, p1, p2, p3, p4, p5, p6⟩ := BoxAt.cells hbox9
      have hfin9 : Below w.heap.size w w9 := Below.grown hB1 hg9 (Below.size hB1) (fun k hk => by injection hk with hk; omega)
      go_wp2_with fail
      exact bodyPost_ret (v := .tuple #[nilSV.val, .int .i64 0, .int .i64 3]) (by simp [results, Try.results40, go_sem, SV.val, p0, p1, p2, p3, p4, p5, p6]) rfl (tkErr hfin.out hfin9)
    have g1' := within_iff.1 g1
    obtain ⟨i, rfl⟩ : ∃ i : Nat, o = i := ⟨o.toNat, by omega⟩
    have hi : i < s.orders.length := by omega
    have hi' : (i : Int) < s.orders.length := by omega
    obtain ⟨Al, cl, ol, ll, d0, d1, hsl⟩ := (hO.out W1 hB1).order hi
    obtain ⟨l1, l3⟩ := hsn.out.lines3 hi
    change 1 ≤ (orderAt s.orders i).lines.length at l1
    change (orderAt s.orders i).lines.length ≤ 3 at l3
    have hw5 : IntKind.i64.wrap (((orderAt s.orders i).lines.length : Int) - 1) = ((orderAt s.orders i).lines.length : Int) - 1 := IntWalk.i64_in _ (by omega)
    go_wp2_with fail
    refine (withinAt g1 _).mono ?_
    rintro e w' ⟨rfl, rfl⟩
    clear g1 g1'
    go_wp2_with fail
    cases g2 : within k 0 (((orderAt s.orders i).lines.length : Int) - 1)
    · have hfin := Lib.hid (take_range (p := p) (s := s) (o := i) (k := k) (n := n) (but := but) hc'.out (by have := within_false.1 g2; simp only [Int.toNat_natCast]; have : ((s.order i).lines.length : Int) = (orderAt s.orders i).lines.length := rfl; omega))
      refine (withinAt g2 _).mono ?_
      rintro e w' ⟨rfl, rfl⟩
      clear g2
      have hbx9 := hR.out _ h1
      go_wp2_with (refine wpList_store_state rfl (.tmp 12) (.tmp 60) rfl rfl (w.heap.size + 1 + 1) nilSV nilSV hbx9 rfl rfl rfl (fun w9 hbox9 hg9 => ?_))
      obtain ⟨p0, p1, p2, p3, p4, p5, p6⟩ := BoxAt.cells hbox9
      have hfin9 : Below w.heap.size w w9 := Below.grown hB1 hg9 (Below.size hB1) (fun k hk => by injection hk with hk; omega)
      go_wp2_with fail
      exact bodyPost_ret (v := .tuple #[nilSV.val, .int .i64 0, .int .i64 3]) (by simp [results, Try.results40, go_sem, SV.val, p0, p1, p2, p3, p4, p5, p6]) rfl (tkErr hfin.out hfin9)
    refine (withinAt g2 _).mono ?_
    rintro e w' ⟨rfl, rfl⟩
    have g2' := within_iff.1 g2
    obtain ⟨j, rfl⟩ : ∃ j : Nat, k = j := ⟨k.toNat, by omega⟩
    have hj : j < (orderAt s.orders i).lines.length := by omega
    have hj' : (j : Int) < (orderAt s.orders i).lines.length := by omega
    clear g2 g2'
    go_wp2_with fail
    cases g3 : within n 0 200
    · have hfin := Lib.hid (take_range (p := p) (s := s) (o := i) (k := j) (n := n) (but := but) hc'.out (by have := within_false.1 g3; omega))
      refine (withinAt g3 _).mono ?_
      rintro e w' ⟨rfl, rfl⟩
      clear g3
      have hbx9 := hR.out _ h1
      go_wp2_with (refine wpList_store_state rfl (.tmp 12) (.tmp 60) rfl rfl (w.heap.size + 1 + 1) nilSV nilSV hbx9 rfl rfl rfl (fun w9 hbox9 hg9 => ?_))
      obtain ⟨p0, p1, p2, p3, p4, p5, p6⟩ := BoxAt.cells hbox9
      have hfin9 : Below w.heap.size w w9 := Below.grown hB1 hg9 (Below.size hB1) (fun k hk => by injection hk with hk; omega)
      go_wp2_with fail
      exact bodyPost_ret (v := .tuple #[nilSV.val, .int .i64 0, .int .i64 3]) (by simp [results, Try.results40, go_sem, SV.val, p0, p1, p2, p3, p4, p5, p6]) rfl (tkErr hfin.out hfin9)
    refine (withinAt g3 _).mono ?_
    rintro e w' ⟨rfl, rfl⟩
    have g3' := within_iff.1 g3
    clear g3
    have hhin : -1 ≤ but ∧ but < p.bins.length ∨ (but < -1 ∨ (p.bins.length : Int) ≤ but) := by omega
    rcases hhin with g4 | g4
    · have hin := Lib.hid (take_in (n := n) (but := but) hc'.out hi hj (by omega) g4)
      obtain ⟨ok2, l2, e0, e1, e2, e3⟩ := hsl.at_.line hj
      have hmid : ∀ Q : Prop, Q → Q := fun _ h => h
      clear hmid
      by_cases hkd : (orderAt s.orders i).kind = 1
      · have hkd' : ((orderAt s.orders i).kind != 1) = false := by simpa using hkd
        by_cases hbk : (lineAt (orderAt s.orders i).lines j).back < n
        · have hfin := Lib.hid (show take p s i j n but = (dState, 0, 3) by rw [hin.out, if_neg (fun h => h (show (s.order i).kind = 1 from hkd)), if_pos (show (s.line i j).back < n from hbk)])
          clear hkd
          by_cases gb : but = -1
          · have gb' : (but != -1) = false := by simpa using gb
            clear gb
            have hbx9 := hR.out _ h1
            go_wp2_with (refine wpList_store_state rfl (.tmp 12) (.tmp 81) rfl rfl (w.heap.size + 1 + 1) nilSV nilSV hbx9 rfl rfl rfl (fun w9 hbox9 hg9 => ?_))
            obtain ⟨p0, p1, p2, p3, p4, p5, p6⟩ := BoxAt.cells hbox9
            have hfin9 : Below w.heap.size w w9 := Below.grown hB1 hg9 (Below.size hB1) (fun k hk => by injection hk with hk; omega)
            go_wp2_with fail
            exact bodyPost_ret (v := .tuple #[nilSV.val, .int .i64 0, .int .i64 3]) (by simp [results, Try.results40, go_sem, SV.val, p0, p1, p2, p3, p4, p5, p6]) rfl (tkErr hfin.out hfin9)
          · have gb' : (but != -1) = true := by simpa using gb
            go_wp2_with fail
            refine (rIsBin _ _ p but (hP'.out _ hB1) (by omega)).mono ?_
            rintro e W2 ⟨rfl, h2⟩
            have hbn : isBin p but = true := isBin_iff.2 (by omega)
            rw [hbn]
            have h12 := h1.trans (h2.mono h1.size)
            have hB2 := hb0.trans (h12.mono hb0.size)
            have ht2 : w.heap.size < W2.heap.size := by have := hB1.size; have := h2.size; have := h1.size; omega
            clear y0 y1 x0 x1 x2 x3 x4 x5 x6 hbz0 hbz1
            clear gb hbn d0 d1 e0 e1 e2 e3
            obtain ⟨Al', cl', ol', ll', d0, d1, hsl'⟩ := (hO.out W2 hB2).order hi
            obtain ⟨ok2', l2', e0, e1, e2, e3⟩ := hsl'.at_.line hj
            obtain ⟨⟨y0, y1⟩, x0, x1, x2, x3, x4, x5, x6, hbz0, hbz1⟩ := hK.out W2 (h12)
            have hbx9 := hR.out _ h12
            go_wp2_with (refine wpList_store_state rfl (.tmp 12) (.tmp 81) rfl rfl (w.heap.size + 1 + 1) nilSV nilSV hbx9 rfl rfl rfl (fun w9 hbox9 hg9 => ?_))
            obtain ⟨p0, p1, p2, p3, p4, p5, p6⟩ := BoxAt.cells hbox9
            have hfin9 : Below w.heap.size w w9 := Below.grown hB2 hg9 (Below.size hB2) (fun k hk => by injection hk with hk; omega)
            go_wp2_with fail
            exact bodyPost_ret (v := .tuple #[nilSV.val, .int .i64 0, .int .i64 3]) (by simp [results, Try.results40, go_sem, SV.val, p0, p1, p2, p3, p4, p5, p6]) rfl (tkErr hfin.out hfin9)
        · have hfin := Lib.hid (show take p s i j n but = ((takeS p s i j n but).1, (takeS p s i j n but).2, 0) by rw [hin.out, if_neg (fun h => h (show (s.order i).kind = 1 from hkd)), if_neg (show ¬ (s.line i j).back < n from hbk)])
          have hmay := Lib.hid (show May s i j n from ⟨hi, hj, hkd, by omega, by have : ¬ (s.line i j).back < n := hbk; omega⟩)
          have hrt := Lib.hid (right_of_check hc'.out)
          clear hkd
          by_cases gb : but = -1
          · have gb' : (but != -1) = false := by simpa using gb
            clear gb
            go_wp2_with fail
            clear y0 y1 x0 x1 x2 x3 x4 x5 x6 hbz0 hbz1
            clear hkd' gb' e0 e1 e2 e3 d0 d1 hi' hj'
            have hle : w.heap.size ≤ (W1).heap.size := (hB1).size
            have hle0 : W0.heap.size ≤ (W1).heap.size := (h1).size
            refine wp_region_opsP 14 (fun wq => Below (W1).heap.size W1 wq) (KeepSt (W1).heap.size) 7 12 (by decide) (by decide) (by decide) (fun o ho => by injection ho with ho; subst ho; exact ⟨⟨7, .chain⟩, by simp, rfl, rfl⟩) [fun _ gq _ => gq 83 = .agg #[.slice Ab p.bins.length cb, .slice As p.sizes.length cs], fun _ gq _ => gq 84 = .agg #[.slice A0 s.on.length c0, .slice A1 s.orders.length c1, .slice A2 s.holds.length c2, .slice A3 s.moves.length c3, .slice A4 s.inn.length c4, .slice A5 s.out.length c5, .slice A6 s.fixed.length c6], fun ph gq w' => phs (fun v w' => ∃ V : SV, v = V.val ∧ OwnSt w' (W1).heap.size V s) (fun _ _ => True) ph (gq 85) w', fun _ gq _ => gq 86 = .int .i64 i, fun _ gq _ => gq 87 = .int .i64 j, fun _ gq _ => gq 88 = .int .i64 n, fun _ gq _ => gq 89 = .int .i64 but,
              fun ph gq w' => phs (fun _ _ => False) (fun v w' => ∃ V : SV, v = .tuple #[V.val, .int .i64 (takeS p s i j n but).2] ∧ OwnSt w' (W1).heap.size V (takeS p s i j n but).1) ph (gq 90) w', fun ph gq w' => phs (fun _ _ => False) (fun v w' => ∃ V : SV, v = .tuple #[V.val, .int .i64 (takeS p s i j n but).2] ∧ OwnSt w' (W1).heap.size V (takeS p s i j n but).1) ph (gq 82) w',
              fun ph gq w' => phs (fun _ _ => False) (fun v w' => ∃ V : SV, v = V.val ∧ OwnSt w' (W1).heap.size V (takeS p s i j n but).1) ph (gq 91) w', fun _ gq _ => gq 92 = .int .i64 (takeS p s i j n but).2, fun ph gq w' => (fun (ph : Nat) (v : Value) w' => ∃ b, v = .pointer (some ⟨b, 0, none⟩) ∧ (W1).heap.size ≤ b ∧ (ph ≤ 1 → BoxAt w' b nilSV)) ph (gq 16) w',
              fun ph gq w' => ph = 2 ∧ (∃ b V, gq 16 = .pointer (some ⟨b, 0, none⟩) ∧ (W1).heap.size ≤ b ∧ BoxAt w' b V ∧ OwnSt w' (W1).heap.size V (takeS p s i j n but).1), fun _ gq _ => gq 17 = .int .i64 (takeS p s i j n but).2] (by kernel_rfl) (by kernel_rfl) rfl (by kernel_rfl)
              (fun w1 w2 h h' => h.trans (h'.mono h.size)) (fun k w1 w2 h h' => h.trans h'.1) (Below.refl _ _).drew ?_ (fun f w2 hb2 hR => ?_)
            simp only [List.take_succ_cons, List.take_zero]
            refine OpsPh.cons (OpPh.val rfl rfl (by decide) (by decide) (fun ph gq w' hb ho hd => ?_)) ?_
            · have e6 := ho 6 rfl
              obtain ⟨⟨y0, y1⟩, x0, x1, x2, x3, x4, x5, x6, hbz0, hbz1⟩ := hK.out w' ((h1).trans (hb.mono (h1).size))
              go_simp
            refine OpsPh.cons (OpPh.val rfl rfl (by decide) (by decide) (fun ph gq w' hb ho hd => ?_)) ?_
            · have e7 := ho 7 rfl
              obtain ⟨⟨y0, y1⟩, x0, x1, x2, x3, x4, x5, x6, hbz0, hbz1⟩ := hK.out w' ((h1).trans (hb.mono (h1).size))
              go_simp
            refine OpsPh.cons (OpPh.one (d := 85) rfl rfl (by decide) (by decide) (fun ph v w1 w2 h hb => by
                rcases ph with _ | ph
                · obtain ⟨V, h1, h2⟩ := h
                  exact ⟨V, h1, h2.below hb⟩
                · trivial) (fun k v w1 w2 _ h hb => by trivial) (fun ph gq w' hb ho hd => ?_)) ?_
            · have e84 : gq 84 = .agg #[.slice A0 s.on.length c0, .slice A1 s.orders.length c1, .slice A2 s.holds.length c2, .slice A3 s.moves.length c3, .slice A4 s.inn.length c4, .slice A5 s.out.length c5, .slice A6 s.fixed.length c6] := hd ⟨1, .data⟩ (by simp) rfl (by decide)
              unfold OpRel
              go_simp
              refine (rOwnState w' _ p s (hV.out w' ((hB1).trans (hb.mono (hB1).size))) hsn.out).mono ?_
              rintro e w2 ⟨_, rfl, ⟨V5, rfl, ho5⟩, h5⟩
              rcases ph with _ | ph
              · exact ⟨_, rfl, ⟨V5, rfl, ho5.from_ hb.size⟩, h5⟩
              · exact ⟨_, rfl, trivial, h5⟩
            refine OpsPh.cons (OpPh.val rfl rfl (by decide) (by decide) (fun ph gq w' hb ho hd => ?_)) ?_
            · have e2 := ho 2 rfl
              go_simp
            refine OpsPh.cons (OpPh.val rfl rfl (by decide) (by decide) (fun ph gq w' hb ho hd => ?_)) ?_
            · have e3 := ho 3 rfl
              go_simp
            refine OpsPh.cons (OpPh.val rfl rfl (by decide) (by decide) (fun ph gq w' hb ho hd => ?_)) ?_
            · have e4 := ho 4 rfl
              go_simp
            refine OpsPh.cons (OpPh.val rfl rfl (by decide) (by decide) (fun ph gq w' hb ho hd => ?_)) ?_
            · have e5 := ho 5 rfl
              go_simp
            refine OpsPh.cons (OpPh.first (d := 90) (p := phs (fun _ _ => False) (fun v w' => ∃ V : SV, v = .tuple #[V.val, .int .i64 (takeS p s i j n but).2] ∧ OwnSt w' (W1).heap.size V (takeS p s i j n but).1)) rfl rfl (fun ph v w1 w2 h hb => by
                rcases ph with _ | ph
                · exact h
                · obtain ⟨V, h1, h2⟩ := h
                  exact ⟨V, h1, h2.below hb⟩) (fun v w1 w2 h hb => by
                obtain ⟨V, h1, h2⟩ := h
                exact ⟨V, h1, hb.2.2 rfl _ _ _ h2⟩) (fun gq w' hb ho hd => ?_)) ?_
            · have e83 : gq 83 = .agg #[.slice Ab p.bins.length cb, .slice As p.sizes.length cs] := hd ⟨0, .data⟩ (by simp) rfl (by decide)
              have e85 : ∃ V : SV, gq 85 = V.val ∧ OwnSt w' (W1).heap.size V s := hd ⟨2, .data⟩ (by simp) rfl (by decide)
              have e86 : gq 86 = .int .i64 i := hd ⟨3, .data⟩ (by simp) rfl (by decide)
              have e87 : gq 87 = .int .i64 j := hd ⟨4, .data⟩ (by simp) rfl (by decide)
              have e88 : gq 88 = .int .i64 n := hd ⟨5, .data⟩ (by simp) rfl (by decide)
              have e89 : gq 89 = .int .i64 but := hd ⟨6, .data⟩ (by simp) rfl (by decide)
              obtain ⟨V5, e85, ho5⟩ := e85
              have ho5' := Lib.hid ho5
              clear ho5
              unfold OpRel
              go_simp
              refine (rTake w' _ p s i j n but (hP'.out _ ((hB1).trans (hb.mono (hB1).size))) hrt.out hmay.out ho5'.out hb.size).mono ?_
              rintro e w7 ⟨V7, hsb7, rfl, ho7, hst7⟩
              exact ⟨_, rfl, ⟨V7, rfl, ho7⟩, keepSt_of ho5'.out hmay.out.ho hst7 hb.size⟩
            refine OpsPh.cons (OpPh.one (d := 82) (p := phs (fun _ _ => False) (fun v w' => ∃ V : SV, v = .tuple #[V.val, .int .i64 (takeS p s i j n but).2] ∧ OwnSt w' (W1).heap.size V (takeS p s i j n but).1)) rfl rfl (by decide) (by decide) (fun ph v w1 w2 h hb => by
                rcases ph with _ | ph
                · exact h
                · obtain ⟨V, h1, h2⟩ := h
                  exact ⟨V, h1, h2.below hb⟩) (fun k v w1 w2 hk h hb => by
                rcases (show k = 0 ∨ k = 1 by omega) with rfl | rfl
                · exact h.elim
                · obtain ⟨V, h1, h2⟩ := h
                  exact ⟨V, h1, hb.2.2 rfl _ _ _ h2⟩) (fun ph gq w' hb ho hd => ?_)) ?_
            · have e90 : phs (fun _ _ => False) (fun v w' => ∃ V : SV, v = .tuple #[V.val, .int .i64 (takeS p s i j n but).2] ∧ OwnSt w' (W1).heap.size V (takeS p s i j n but).1) ph (gq 90) w' := hd ⟨7, .data⟩ (by simp) rfl (by decide)
              rcases ph with _ | ph
              · exact e90.elim
              · obtain ⟨V7, e90, ho7⟩ := e90
                have ho7' := Lib.hid ho7
                clear ho7
                unfold OpRel
                go_simp
                exact ⟨⟨V7, rfl, ho7'.out⟩, Below.refl _ _⟩
            refine OpsPh.cons (OpPh.one (d := 91) (p := phs (fun _ _ => False) (fun v w' => ∃ V : SV, v = V.val ∧ OwnSt w' (W1).heap.size V (takeS p s i j n but).1)) rfl rfl (by decide) (by decide) (fun ph v w1 w2 h hb => by
                rcases ph with _ | ph
                · exact h
                · obtain ⟨V, h1, h2⟩ := h
                  exact ⟨V, h1, h2.below hb⟩) (fun k v w1 w2 hk h hb => by
                rcases (show k = 0 ∨ k = 1 by omega) with rfl | rfl
                · exact h.elim
                · obtain ⟨V, h1, h2⟩ := h
                  exact ⟨V, h1, hb.2.2 rfl _ _ _ h2⟩) (fun ph gq w' hb ho hd => ?_)) ?_
            · have e82 : phs (fun _ _ => False) (fun v w' => ∃ V : SV, v = .tuple #[V.val, .int .i64 (takeS p s i j n but).2] ∧ OwnSt w' (W1).heap.size V (takeS p s i j n but).1) ph (gq 82) w' := hd ⟨8, .data⟩ (by simp) rfl (by decide)
              rcases ph with _ | ph
              · exact e82.elim
              · obtain ⟨V7, e82, ho7⟩ := e82
                have ho7' := Lib.hid ho7
                clear ho7
                unfold OpRel
                go_simp
                exact ⟨⟨V7, rfl, ho7'.out⟩, Below.refl _ _⟩
            refine OpsPh.cons (OpPh.val rfl rfl (by decide) (by decide) (fun ph gq w' hb ho hd => ?_)) ?_
            · have e82 : phs (fun _ _ => False) (fun v w' => ∃ V : SV, v = .tuple #[V.val, .int .i64 (takeS p s i j n but).2] ∧ OwnSt w' (W1).heap.size V (takeS p s i j n but).1) ph (gq 82) w' := hd ⟨8, .data⟩ (by simp) rfl (by decide)
              rcases ph with _ | ph
              · exact e82.elim
              · obtain ⟨V7, e82, ho7⟩ := e82
                clear ho7
                go_simp
            refine OpsPh.cons (OpPh.one (d := 16) (p := fun (ph : Nat) (v : Value) w' => ∃ b, v = .pointer (some ⟨b, 0, none⟩) ∧ (W1).heap.size ≤ b ∧ (ph ≤ 1 → BoxAt w' b nilSV)) rfl rfl (by decide) (by decide) (fun ph v w1 w2 h hb => by
                obtain ⟨b, h1, h2, h3⟩ := h
                exact ⟨b, h1, h2, fun hp => (h3 hp).below hb (h3 hp).lt⟩) (fun k v w1 w2 hk h hb => by
                obtain ⟨b, h1, h2, h3⟩ := h
                refine ⟨b, h1, h2, fun hp => ?_⟩
                obtain rfl : k = 0 := by omega
                exact hb.2.1 rfl _ _ (h3 (by omega))) (fun ph gq w' hb ho hd => ?_)) ?_
            · unfold OpRel
              go_simp
              exact ⟨⟨hb.size, fun _ => Blk.new _ _ _⟩, (Below.refl _ _).alloc (Nat.le_refl _) _⟩
            refine OpsPh.cons (OpPh.second (p := fun gq w' => ∃ b V, gq 16 = .pointer (some ⟨b, 0, none⟩) ∧ (W1).heap.size ≤ b ∧ BoxAt w' b V ∧ OwnSt w' (W1).heap.size V (takeS p s i j n but).1) (by decide) rfl (fun gq w1 w2 h hb => by
                obtain ⟨b, V, h1, h2, h3, h4⟩ := h
                exact ⟨b, V, h1, h2, h3.below hb h3.lt, h4.below hb⟩) (fun gq gq' w1 he h => by
                have e1 := he 11 _ 16 (Anc.back (e := ⟨11, .data⟩) rfl (by simp) rfl rfl (Anc.self _)) rfl rfl
                rw [← e1]
                exact h) (fun gq w' hb ho hd => ?_)) ?_
            · have e16 : ∃ b, gq 16 = .pointer (some ⟨b, 0, none⟩) ∧ (W1).heap.size ≤ b ∧ (1 ≤ 1 → BoxAt w' b nilSV) := hd ⟨11, .data⟩ (by simp) rfl (by decide)
              have e91 : ∃ V : SV, gq 91 = V.val ∧ OwnSt w' (W1).heap.size V (takeS p s i j n but).1 := hd ⟨9, .data⟩ (by simp) rfl (by decide)
              obtain ⟨b, e16, hbl, hbo⟩ := e16
              obtain ⟨V7, e91, ho7⟩ := e91
              have hbo := hbo (Nat.le_refl _)
              refine opRel_store_state (.tmp 16) (.tmp 91) rfl b nilSV V7 hbo e16 e91 ho7.one (fun w8 hbox8 hg8 => ?_)
              exact ⟨⟨b, V7, e16, hbl, hbox8, ho7.keptBy hg8 hbo.blk (by decide) (by decide) (by decide) (by decide) (by decide) (by decide)⟩, keepSt_box hbo hbl hg8⟩
            refine OpsPh.cons (OpPh.val rfl rfl (by decide) (by decide) (fun ph gq w' hb ho hd => ?_)) ?_
            · have e92 : gq 92 = .int .i64 (takeS p s i j n but).2 := hd ⟨10, .data⟩ (by simp) rfl (by decide)
              go_simp
            exact OpsPh.nil
            obtain ⟨r83, r84, _, r86, r87, r88, r89, ⟨V0, r90, _⟩, ⟨V1, r82, _⟩, ⟨V2, r91, _⟩, r92, _, ⟨_, bx, V7, r16, hbx, hbox8, ho8⟩, r17, _⟩ := hR
            simp only [fillA, fillT, List.take_succ_cons, List.take_zero, List.drop_succ_cons, List.drop_zero, List.filterMap_cons, List.filterMap_nil, List.foldl_cons, List.foldl_nil, List.setIfInBounds_toArray, List.set_cons_zero, List.set_cons_succ, r83, r84, r86, r87, r88, r89, r90, r82, r91, r92, r16, r17]
            clear r83 r84 r86 r87 r88 r89 r90 r82 r91 r92 r16 r17
            refine wpList_nil ?_
            have h08 := (h1).trans (hb2.mono (h1).size)
            have hB8 := hb0.trans (h08.mono hb0.size)
            have hbx9 := hR.out _ h08
            obtain ⟨b0, b1, b2, b3, b4, b5, b6⟩ := BoxAt.cells hbox8
            have hone9 := OwnSt.one ho8
            go_wp2_with (refine wpList_store_state rfl (.tmp 12) (.tmp 93) rfl rfl (w.heap.size + 1 + 1) nilSV V7 hbx9 rfl rfl hone9 (fun w9 hbox9 hg9 => ?_))
            have hO9 := OwnSt.keptBy ho8 hg9 hbx9 (by decide) (by decide) (by decide) (by decide) (by decide) (by decide)
            obtain ⟨p0, p1, p2, p3, p4, p5, p6⟩ := BoxAt.cells hbox9
            have hfin9 : Below w.heap.size w w9 := Below.grown hB8 hg9 (Below.size hB8) (fun k hk => by injection hk with hk; omega)
            clear b0 b1 b2 b3 b4 b5 b6
            go_wp2_with fail
            exact bodyPost_ret (v := .tuple #[SV.val V7, .int .i64 (takeS p s i j n but).2, .int .i64 0]) (by simp [results, Try.results40, go_sem, SV.val, p0, p1, p2, p3, p4, p5, p6]) rfl (tkOk hfin.out (hO9.from_ hle) hfin9)
          · have gb' : (but != -1) = true := by simpa using gb
            go_wp2_with fail
            refine (rIsBin _ _ p but (hP'.out _ hB1) (by omega)).mono ?_
            rintro e W2 ⟨rfl, h2⟩
            have hbn : isBin p but = true := isBin_iff.2 (by omega)
            rw [hbn]
            have h12 := h1.trans (h2.mono h1.size)
            have hB2 := hb0.trans (h12.mono hb0.size)
            have ht2 : w.heap.size < W2.heap.size := by have := hB1.size; have := h2.size; have := h1.size; omega
            clear y0 y1 x0 x1 x2 x3 x4 x5 x6 hbz0 hbz1
            clear gb hbn d0 d1 e0 e1 e2 e3
            obtain ⟨Al', cl', ol', ll', d0, d1, hsl'⟩ := (hO.out W2 hB2).order hi
            obtain ⟨ok2', l2', e0, e1, e2, e3⟩ := hsl'.at_.line hj
            obtain ⟨⟨y0, y1⟩, x0, x1, x2, x3, x4, x5, x6, hbz0, hbz1⟩ := hK.out W2 (h12)
            go_wp2_with fail
            clear y0 y1 x0 x1 x2 x3 x4 x5 x6 hbz0 hbz1
            clear hkd' gb' e0 e1 e2 e3 d0 d1 hi' hj'
            have hle : w.heap.size ≤ (W2).heap.size := (hB2).size
            have hle0 : W0.heap.size ≤ (W2).heap.size := (h12).size
            refine wp_region_opsP 14 (fun wq => Below (W2).heap.size W2 wq) (KeepSt (W2).heap.size) 7 12 (by decide) (by decide) (by decide) (fun o ho => by injection ho with ho; subst ho; exact ⟨⟨7, .chain⟩, by simp, rfl, rfl⟩) [fun _ gq _ => gq 83 = .agg #[.slice Ab p.bins.length cb, .slice As p.sizes.length cs], fun _ gq _ => gq 84 = .agg #[.slice A0 s.on.length c0, .slice A1 s.orders.length c1, .slice A2 s.holds.length c2, .slice A3 s.moves.length c3, .slice A4 s.inn.length c4, .slice A5 s.out.length c5, .slice A6 s.fixed.length c6], fun ph gq w' => phs (fun v w' => ∃ V : SV, v = V.val ∧ OwnSt w' (W2).heap.size V s) (fun _ _ => True) ph (gq 85) w', fun _ gq _ => gq 86 = .int .i64 i, fun _ gq _ => gq 87 = .int .i64 j, fun _ gq _ => gq 88 = .int .i64 n, fun _ gq _ => gq 89 = .int .i64 but,
              fun ph gq w' => phs (fun _ _ => False) (fun v w' => ∃ V : SV, v = .tuple #[V.val, .int .i64 (takeS p s i j n but).2] ∧ OwnSt w' (W2).heap.size V (takeS p s i j n but).1) ph (gq 90) w', fun ph gq w' => phs (fun _ _ => False) (fun v w' => ∃ V : SV, v = .tuple #[V.val, .int .i64 (takeS p s i j n but).2] ∧ OwnSt w' (W2).heap.size V (takeS p s i j n but).1) ph (gq 82) w',
              fun ph gq w' => phs (fun _ _ => False) (fun v w' => ∃ V : SV, v = V.val ∧ OwnSt w' (W2).heap.size V (takeS p s i j n but).1) ph (gq 91) w', fun _ gq _ => gq 92 = .int .i64 (takeS p s i j n but).2, fun ph gq w' => (fun (ph : Nat) (v : Value) w' => ∃ b, v = .pointer (some ⟨b, 0, none⟩) ∧ (W2).heap.size ≤ b ∧ (ph ≤ 1 → BoxAt w' b nilSV)) ph (gq 16) w',
              fun ph gq w' => ph = 2 ∧ (∃ b V, gq 16 = .pointer (some ⟨b, 0, none⟩) ∧ (W2).heap.size ≤ b ∧ BoxAt w' b V ∧ OwnSt w' (W2).heap.size V (takeS p s i j n but).1), fun _ gq _ => gq 17 = .int .i64 (takeS p s i j n but).2] (by kernel_rfl) (by kernel_rfl) rfl (by kernel_rfl)
              (fun w1 w2 h h' => h.trans (h'.mono h.size)) (fun k w1 w2 h h' => h.trans h'.1) (Below.refl _ _).drew ?_ (fun f w2 hb2 hR => ?_)
            simp only [List.take_succ_cons, List.take_zero]
            refine OpsPh.cons (OpPh.val rfl rfl (by decide) (by decide) (fun ph gq w' hb ho hd => ?_)) ?_
            · have e6 := ho 6 rfl
              obtain ⟨⟨y0, y1⟩, x0, x1, x2, x3, x4, x5, x6, hbz0, hbz1⟩ := hK.out w' ((h12).trans (hb.mono (h12).size))
              go_simp
            refine OpsPh.cons (OpPh.val rfl rfl (by decide) (by decide) (fun ph gq w' hb ho hd => ?_)) ?_
            · have e7 := ho 7 rfl
              obtain ⟨⟨y0, y1⟩, x0, x1, x2, x3, x4, x5, x6, hbz0, hbz1⟩ := hK.out w' ((h12).trans (hb.mono (h12).size))
              go_simp
            refine OpsPh.cons (OpPh.one (d := 85) rfl rfl (by decide) (by decide) (fun ph v w1 w2 h hb => by
                rcases ph with _ | ph
                · obtain ⟨V, h1, h2⟩ := h
                  exact ⟨V, h1, h2.below hb⟩
                · trivial) (fun k v w1 w2 _ h hb => by trivial) (fun ph gq w' hb ho hd => ?_)) ?_
            · have e84 : gq 84 = .agg #[.slice A0 s.on.length c0, .slice A1 s.orders.length c1, .slice A2 s.holds.length c2, .slice A3 s.moves.length c3, .slice A4 s.inn.length c4, .slice A5 s.out.length c5, .slice A6 s.fixed.length c6] := hd ⟨1, .data⟩ (by simp) rfl (by decide)
              unfold OpRel
              go_simp
              refine (rOwnState w' _ p s (hV.out w' ((hB2).trans (hb.mono (hB2).size))) hsn.out).mono ?_
              rintro e w2 ⟨_, rfl, ⟨V5, rfl, ho5⟩, h5⟩
              rcases ph with _ | ph
              · exact ⟨_, rfl, ⟨V5, rfl, ho5.from_ hb.size⟩, h5⟩
              · exact ⟨_, rfl, trivial, h5⟩
            refine OpsPh.cons (OpPh.val rfl rfl (by decide) (by decide) (fun ph gq w' hb ho hd => ?_)) ?_
            · have e2 := ho 2 rfl
              go_simp
            refine OpsPh.cons (OpPh.val rfl rfl (by decide) (by decide) (fun ph gq w' hb ho hd => ?_)) ?_
            · have e3 := ho 3 rfl
              go_simp
            refine OpsPh.cons (OpPh.val rfl rfl (by decide) (by decide) (fun ph gq w' hb ho hd => ?_)) ?_
            · have e4 := ho 4 rfl
              go_simp
            refine OpsPh.cons (OpPh.val rfl rfl (by decide) (by decide) (fun ph gq w' hb ho hd => ?_)) ?_
            · have e5 := ho 5 rfl
              go_simp
            refine OpsPh.cons (OpPh.first (d := 90) (p := phs (fun _ _ => False) (fun v w' => ∃ V : SV, v = .tuple #[V.val, .int .i64 (takeS p s i j n but).2] ∧ OwnSt w' (W2).heap.size V (takeS p s i j n but).1)) rfl rfl (fun ph v w1 w2 h hb => by
                rcases ph with _ | ph
                · exact h
                · obtain ⟨V, h1, h2⟩ := h
                  exact ⟨V, h1, h2.below hb⟩) (fun v w1 w2 h hb => by
                obtain ⟨V, h1, h2⟩ := h
                exact ⟨V, h1, hb.2.2 rfl _ _ _ h2⟩) (fun gq w' hb ho hd => ?_)) ?_
            · have e83 : gq 83 = .agg #[.slice Ab p.bins.length cb, .slice As p.sizes.length cs] := hd ⟨0, .data⟩ (by simp) rfl (by decide)
              have e85 : ∃ V : SV, gq 85 = V.val ∧ OwnSt w' (W2).heap.size V s := hd ⟨2, .data⟩ (by simp) rfl (by decide)
              have e86 : gq 86 = .int .i64 i := hd ⟨3, .data⟩ (by simp) rfl (by decide)
              have e87 : gq 87 = .int .i64 j := hd ⟨4, .data⟩ (by simp) rfl (by decide)
              have e88 : gq 88 = .int .i64 n := hd ⟨5, .data⟩ (by simp) rfl (by decide)
              have e89 : gq 89 = .int .i64 but := hd ⟨6, .data⟩ (by simp) rfl (by decide)
              obtain ⟨V5, e85, ho5⟩ := e85
              have ho5' := Lib.hid ho5
              clear ho5
              unfold OpRel
              go_simp
              refine (rTake w' _ p s i j n but (hP'.out _ ((hB2).trans (hb.mono (hB2).size))) hrt.out hmay.out ho5'.out hb.size).mono ?_
              rintro e w7 ⟨V7, hsb7, rfl, ho7, hst7⟩
              exact ⟨_, rfl, ⟨V7, rfl, ho7⟩, keepSt_of ho5'.out hmay.out.ho hst7 hb.size⟩
            refine OpsPh.cons (OpPh.one (d := 82) (p := phs (fun _ _ => False) (fun v w' => ∃ V : SV, v = .tuple #[V.val, .int .i64 (takeS p s i j n but).2] ∧ OwnSt w' (W2).heap.size V (takeS p s i j n but).1)) rfl rfl (by decide) (by decide) (fun ph v w1 w2 h hb => by
                rcases ph with _ | ph
                · exact h
                · obtain ⟨V, h1, h2⟩ := h
                  exact ⟨V, h1, h2.below hb⟩) (fun k v w1 w2 hk h hb => by
                rcases (show k = 0 ∨ k = 1 by omega) with rfl | rfl
                · exact h.elim
                · obtain ⟨V, h1, h2⟩ := h
                  exact ⟨V, h1, hb.2.2 rfl _ _ _ h2⟩) (fun ph gq w' hb ho hd => ?_)) ?_
            · have e90 : phs (fun _ _ => False) (fun v w' => ∃ V : SV, v = .tuple #[V.val, .int .i64 (takeS p s i j n but).2] ∧ OwnSt w' (W2).heap.size V (takeS p s i j n but).1) ph (gq 90) w' := hd ⟨7, .data⟩ (by simp) rfl (by decide)
              rcases ph with _ | ph
              · exact e90.elim
              · obtain ⟨V7, e90, ho7⟩ := e90
                have ho7' := Lib.hid ho7
                clear ho7
                unfold OpRel
                go_simp
                exact ⟨⟨V7, rfl, ho7'.out⟩, Below.refl _ _⟩
            refine OpsPh.cons (OpPh.one (d := 91) (p := phs (fun _ _ => False) (fun v w' => ∃ V : SV, v = V.val ∧ OwnSt w' (W2).heap.size V (takeS p s i j n but).1)) rfl rfl (by decide) (by decide) (fun ph v w1 w2 h hb => by
                rcases ph with _ | ph
                · exact h
                · obtain ⟨V, h1, h2⟩ := h
                  exact ⟨V, h1, h2.below hb⟩) (fun k v w1 w2 hk h hb => by
                rcases (show k = 0 ∨ k = 1 by omega) with rfl | rfl
                · exact h.elim
                · obtain ⟨V, h1, h2⟩ := h
                  exact ⟨V, h1, hb.2.2 rfl _ _ _ h2⟩) (fun ph gq w' hb ho hd => ?_)) ?_
            · have e82 : phs (fun _ _ => False) (fun v w' => ∃ V : SV, v = .tuple #[V.val, .int .i64 (takeS p s i j n but).2] ∧ OwnSt w' (W2).heap.size V (takeS p s i j n but).1) ph (gq 82) w' := hd ⟨8, .data⟩ (by simp) rfl (by decide)
              rcases ph with _ | ph
              · exact e82.elim
              · obtain ⟨V7, e82, ho7⟩ := e82
                have ho7' := Lib.hid ho7
                clear ho7
                unfold OpRel
                go_simp
                exact ⟨⟨V7, rfl, ho7'.out⟩, Below.refl _ _⟩
            refine OpsPh.cons (OpPh.val rfl rfl (by decide) (by decide) (fun ph gq w' hb ho hd => ?_)) ?_
            · have e82 : phs (fun _ _ => False) (fun v w' => ∃ V : SV, v = .tuple #[V.val, .int .i64 (takeS p s i j n but).2] ∧ OwnSt w' (W2).heap.size V (takeS p s i j n but).1) ph (gq 82) w' := hd ⟨8, .data⟩ (by simp) rfl (by decide)
              rcases ph with _ | ph
              · exact e82.elim
              · obtain ⟨V7, e82, ho7⟩ := e82
                clear ho7
                go_simp
            refine OpsPh.cons (OpPh.one (d := 16) (p := fun (ph : Nat) (v : Value) w' => ∃ b, v = .pointer (some ⟨b, 0, none⟩) ∧ (W2).heap.size ≤ b ∧ (ph ≤ 1 → BoxAt w' b nilSV)) rfl rfl (by decide) (by decide) (fun ph v w1 w2 h hb => by
                obtain ⟨b, h1, h2, h3⟩ := h
                exact ⟨b, h1, h2, fun hp => (h3 hp).below hb (h3 hp).lt⟩) (fun k v w1 w2 hk h hb => by
                obtain ⟨b, h1, h2, h3⟩ := h
                refine ⟨b, h1, h2, fun hp => ?_⟩
                obtain rfl : k = 0 := by omega
                exact hb.2.1 rfl _ _ (h3 (by omega))) (fun ph gq w' hb ho hd => ?_)) ?_
            · unfold OpRel
              go_simp
              exact ⟨⟨hb.size, fun _ => Blk.new _ _ _⟩, (Below.refl _ _).alloc (Nat.le_refl _) _⟩
            refine OpsPh.cons (OpPh.second (p := fun gq w' => ∃ b V, gq 16 = .pointer (some ⟨b, 0, none⟩) ∧ (W2).heap.size ≤ b ∧ BoxAt w' b V ∧ OwnSt w' (W2).heap.size V (takeS p s i j n but).1) (by decide) rfl (fun gq w1 w2 h hb => by
                obtain ⟨b, V, h1, h2, h3, h4⟩ := h
                exact ⟨b, V, h1, h2, h3.below hb h3.lt, h4.below hb⟩) (fun gq gq' w1 he h => by
                have e1 := he 11 _ 16 (Anc.back (e := ⟨11, .data⟩) rfl (by simp) rfl rfl (Anc.self _)) rfl rfl
                rw [← e1]
                exact h) (fun gq w' hb ho hd => ?_)) ?_
            · have e16 : ∃ b, gq 16 = .pointer (some ⟨b, 0, none⟩) ∧ (W2).heap.size ≤ b ∧ (1 ≤ 1 → BoxAt w' b nilSV) := hd ⟨11, .data⟩ (by simp) rfl (by decide)
              have e91 : ∃ V : SV, gq 91 = V.val ∧ OwnSt w' (W2).heap.size V (takeS p s i j n but).1 := hd ⟨9, .data⟩ (by simp) rfl (by decide)
              obtain ⟨b, e16, hbl, hbo⟩ := e16
              obtain ⟨V7, e91, ho7⟩ := e91
              have hbo := hbo (Nat.le_refl _)
              refine opRel_store_state (.tmp 16) (.tmp 91) rfl b nilSV V7 hbo e16 e91 ho7.one (fun w8 hbox8 hg8 => ?_)
              exact ⟨⟨b, V7, e16, hbl, hbox8, ho7.keptBy hg8 hbo.blk (by decide) (by decide) (by decide) (by decide) (by decide) (by decide)⟩, keepSt_box hbo hbl hg8⟩
            refine OpsPh.cons (OpPh.val rfl rfl (by decide) (by decide) (fun ph gq w' hb ho hd => ?_)) ?_
            · have e92 : gq 92 = .int .i64 (takeS p s i j n but).2 := hd ⟨10, .data⟩ (by simp) rfl (by decide)
              go_simp
            exact OpsPh.nil
            obtain ⟨r83, r84, _, r86, r87, r88, r89, ⟨V0, r90, _⟩, ⟨V1, r82, _⟩, ⟨V2, r91, _⟩, r92, _, ⟨_, bx, V7, r16, hbx, hbox8, ho8⟩, r17, _⟩ := hR
            simp only [fillA, fillT, List.take_succ_cons, List.take_zero, List.drop_succ_cons, List.drop_zero, List.filterMap_cons, List.filterMap_nil, List.foldl_cons, List.foldl_nil, List.setIfInBounds_toArray, List.set_cons_zero, List.set_cons_succ, r83, r84, r86, r87, r88, r89, r90, r82, r91, r92, r16, r17]
            clear r83 r84 r86 r87 r88 r89 r90 r82 r91 r92 r16 r17
            refine wpList_nil ?_
            have h08 := (h12).trans (hb2.mono (h12).size)
            have hB8 := hb0.trans (h08.mono hb0.size)
            have hbx9 := hR.out _ h08
            obtain ⟨b0, b1, b2, b3, b4, b5, b6⟩ := BoxAt.cells hbox8
            have hone9 := OwnSt.one ho8
            go_wp2_with (refine wpList_store_state rfl (.tmp 12) (.tmp 93) rfl rfl (w.heap.size + 1 + 1) nilSV V7 hbx9 rfl rfl hone9 (fun w9 hbox9 hg9 => ?_))
            have hO9 := OwnSt.keptBy ho8 hg9 hbx9 (by decide) (by decide) (by decide) (by decide) (by decide) (by decide)
            obtain ⟨p0, p1, p2, p3, p4, p5, p6⟩ := BoxAt.cells hbox9
            have hfin9 : Below w.heap.size w w9 := Below.grown hB8 hg9 (Below.size hB8) (fun k hk => by injection hk with hk; omega)
            clear b0 b1 b2 b3 b4 b5 b6
            go_wp2_with fail
            exact bodyPost_ret (v := .tuple #[SV.val V7, .int .i64 (takeS p s i j n but).2, .int .i64 0]) (by simp [results, Try.results40, go_sem, SV.val, p0, p1, p2, p3, p4, p5, p6]) rfl (tkOk hfin.out (hO9.from_ hle) hfin9)
      · have hkd' : ((orderAt s.orders i).kind != 1) = true := by simpa using hkd
        have hfin := Lib.hid (show take p s i j n but = (dState, 0, 6) by rw [hin.out, if_pos (show (s.order i).kind ≠ 1 from hkd)])
        clear hkd
        by_cases gb : but = -1
        · have gb' : (but != -1) = false := by simpa using gb
          clear gb
          have hbx9 := hR.out _ h1
          go_wp2_with (refine wpList_store_state rfl (.tmp 12) (.tmp 68) rfl rfl (w.heap.size + 1 + 1) nilSV nilSV hbx9 rfl rfl rfl (fun w9 hbox9 hg9 => ?_))
          obtain ⟨p0, p1, p2, p3, p4, p5, p6⟩ := BoxAt.cells hbox9
          have hfin9 : Below w.heap.size w w9 := Below.grown hB1 hg9 (Below.size hB1) (fun k hk => by injection hk with hk; omega)
          go_wp2_with fail
          exact bodyPost_ret (v := .tuple #[nilSV.val, .int .i64 0, .int .i64 6]) (by simp [results, Try.results40, go_sem, SV.val, p0, p1, p2, p3, p4, p5, p6]) rfl (tkErr hfin.out hfin9)
        · have gb' : (but != -1) = true := by simpa using gb
          go_wp2_with fail
          refine (rIsBin _ _ p but (hP'.out _ hB1) (by omega)).mono ?_
          rintro e W2 ⟨rfl, h2⟩
          have hbn : isBin p but = true := isBin_iff.2 (by omega)
          rw [hbn]
          have h12 := h1.trans (h2.mono h1.size)
          have hB2 := hb0.trans (h12.mono hb0.size)
          have ht2 : w.heap.size < W2.heap.size := by have := hB1.size; have := h2.size; have := h1.size; omega
          clear y0 y1 x0 x1 x2 x3 x4 x5 x6 hbz0 hbz1
          clear gb hbn d0 d1 e0 e1 e2 e3
          obtain ⟨Al', cl', ol', ll', d0, d1, hsl'⟩ := (hO.out W2 hB2).order hi
          obtain ⟨ok2', l2', e0, e1, e2, e3⟩ := hsl'.at_.line hj
          obtain ⟨⟨y0, y1⟩, x0, x1, x2, x3, x4, x5, x6, hbz0, hbz1⟩ := hK.out W2 (h12)
          have hbx9 := hR.out _ h12
          go_wp2_with (refine wpList_store_state rfl (.tmp 12) (.tmp 68) rfl rfl (w.heap.size + 1 + 1) nilSV nilSV hbx9 rfl rfl rfl (fun w9 hbox9 hg9 => ?_))
          obtain ⟨p0, p1, p2, p3, p4, p5, p6⟩ := BoxAt.cells hbox9
          have hfin9 : Below w.heap.size w w9 := Below.grown hB2 hg9 (Below.size hB2) (fun k hk => by injection hk with hk; omega)
          go_wp2_with fail
          exact bodyPost_ret (v := .tuple #[nilSV.val, .int .i64 0, .int .i64 6]) (by simp [results, Try.results40, go_sem, SV.val, p0, p1, p2, p3, p4, p5, p6]) rfl (tkErr hfin.out hfin9)
    · have hfin := Lib.hid (take_range (p := p) (s := s) (o := i) (k := j) (n := n) (but := but) hc'.out (by omega))
      have gb' : (but != -1) = true := by simp; omega
      go_wp2_with fail
      refine (rIsBin _ _ p but (hP'.out _ hB1) (by omega)).mono ?_
      rintro e W2 ⟨rfl, h2⟩
      have hbn : isBin p but = false := by
        cases hb : isBin p but
        · rfl
        · have := isBin_iff.1 hb; omega
      rw [hbn]
      have h12 := h1.trans (h2.mono h1.size)
      have hB2 := hb0.trans (h12.mono hb0.size)
      have hbx9 := hR.out _ h12
      go_wp2_with (refine wpList_store_state rfl (.tmp 12) (.tmp 60) rfl rfl (w.heap.size + 1 + 1) nilSV nilSV hbx9 rfl rfl rfl (fun w9 hbox9 hg9 => ?_))
      obtain ⟨p0, p1, p2, p3, p4, p5, p6⟩ := BoxAt.cells hbox9
      have hfin9 : Below w.heap.size w w9 := Below.grown hB2 hg9 (Below.size hB2) (fun k hk => by injection hk with hk; omega)
      go_wp2_with fail
      exact bodyPost_ret (v := .tuple #[nilSV.val, .int .i64 0, .int .i64 3]) (by simp [results, Try.results40, go_sem, SV.val, p0, p1, p2, p3, p4, p5, p6]) rfl (tkErr hfin.out hfin9)
  · have hne : (checkState p s != 0) = true := by simpa using hc
    have hfin := Lib.hid (take_bad (o := o) (k := k) (n := n) (but := but) hc)
    clear hc
    have hbx9 := hR.out _ h1
    go_wp2_with (refine wpList_store_state rfl (.tmp 12) (.tmp 23) rfl rfl (w.heap.size + 1 + 1) nilSV nilSV hbx9 rfl rfl rfl (fun w9 hbox9 hg9 => ?_))
    obtain ⟨p0, p1, p2, p3, p4, p5, p6⟩ := BoxAt.cells hbox9
    have hfin9 : Below w.heap.size w w9 := Below.grown hB1 hg9 (Below.size hB1) (fun k hk => by injection hk with hk; omega)
    go_wp2_with fail
    exact bodyPost_ret (v := .tuple #[nilSV.val, .int .i64 0, .int .i64 (checkState p s)]) (by simp [results, Try.results40, go_sem, SV.val, p0, p1, p2, p3, p4, p5, p6]) rfl (tkErr hfin.out hfin9)
end Wh
