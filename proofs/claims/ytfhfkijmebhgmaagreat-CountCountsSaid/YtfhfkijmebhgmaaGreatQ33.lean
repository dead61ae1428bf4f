/- Texts of the claim, joined: CountG, CountJ, Open, OpenT, OpenH, OpenS. -/
import Derived.SizedLaws
import Derived.Deep.Slices
import Derived.Deep.Fields
import Derived.ChangeSame
import Derived.ChangeOld
import Derived.Carry
import Derived.Test.YtfhfkijmebhgmaaGreatChecked
import Derived.KernelRfl
import Derived.Test.YtfhfkijmebhgmaaGreatQ32
import Derived.Test.YtfhfkijmebhgmaaGreatQ25
import Derived.Test.YtfhfkijmebhgmaaGreatQ26
import Derived.Test.YtfhfkijmebhgmaaGreatQ01
import Derived.Test.YtfhfkijmebhgmaaGreatQ02
import Derived.Test.YtfhfkijmebhgmaaGreatQ06
namespace Wh
open Go Go.RowKit Go.Shelf Go.Proofs
attribute [local go_sem] run_indexAt_letter evL_tmp evL_const evL_func

theorem count_small (p : Plan) (s : State) (b g n : Int) : small (count p s b g n).1 = true := by
  by_cases h : (count p s b g n).2 = 0
  · obtain ⟨hc, i, j, rfl, rfl, f, e⟩ := count_right h
    rw [e]
    exact check_small (count_check hc f)
  · have : (count p s b g n).1 = dState := by
      unfold count at h ⊢
      split
      · rfl
      rename_i h1
      rw [if_neg h1] at h
      split
      · rfl
      rename_i h2
      rw [if_neg h2] at h
      split
      · rfl
      rename_i h3
      rw [if_neg h3] at h
      exact absurd rfl h
    rw [this]
    decide

theorem pair_zero {r : State × Int} (h : r.2 = 0) : r = (r.1, 0) := Prod.ext rfl h
def ctA : State := (count yardP busyS 0 0 1).1
def ctB : State := (count yardP busyS 2 1 9).1
theorem begC1 : count yardP busyS 0 0 1 = (ctA, 0) := pair_zero (r := count yardP busyS 0 0 1) (by decide +kernel)
theorem begC2 : count yardP busyS 2 1 9 = (ctB, 0) := pair_zero (r := count yardP busyS 2 1 9) (by decide +kernel)
theorem begC3 : count yardP busyS 3 0 1 = (dState, 3) := by decide +kernel
theorem begCt {b g n : Int} {r : State × Int} (h : count yardP busyS b g n = r) (w : World) (v vs : Value) (hp : PlanV w w.heap.size v yardP) (hv : StateV w w.heap.size vs busyS) :
    Calls Tryz.prog 20 #[v, vs, .int .i64 b, .int .i64 g, .int .i64 n] w (ActPost r w) := by
  rw [← h]
  exact ctCount w v vs yardP busyS b g n hp hv
theorem ctA_on : ctA.on.length = 3 := by decide +kernel
theorem ctA_row : (rowAt ctA.on 0).length = 2 := by decide +kernel
theorem ctA_cell : cell ctA.on 0 0 = 1 := by decide +kernel
theorem ctA_fixed : ctA.fixed.length = 2 := by decide +kernel
theorem ctA_fixed0 : intAt ctA.fixed 0 = -8 := by decide +kernel
theorem ctA_moves : ctA.moves.length = 0 := by decide +kernel
theorem ctA_holds : ctA.holds.length = 3 := by decide +kernel
theorem ctA_hold : (hold ctA.holds 0).n = 1 := by decide +kernel
theorem ctA_orders : ctA.orders.length = 2 := by decide +kernel
theorem ctA_lines : (ctA.order 0).lines.length = 2 := by decide +kernel
theorem ctA_line : ctA.line 0 0 = ⟨0, 6, 1, 1⟩ := by decide +kernel
theorem ctB_on : ctB.on.length = 3 := by decide +kernel
theorem ctB_row : (rowAt ctB.on 2).length = 2 := by decide +kernel
theorem ctB_cell : cell ctB.on 2 1 = 9 := by decide +kernel
theorem ctB_fixed : ctB.fixed.length = 2 := by decide +kernel
theorem ctB_fixed1 : intAt ctB.fixed 1 = 3 := by decide +kernel
theorem ctB_orders : ctB.orders.length = 2 := by decide +kernel
theorem ctB_lines : (ctB.order 0).lines.length = 2 := by decide +kernel
theorem ctB_line : ctB.line 0 1 = ⟨1, 9, 0, 3⟩ := by decide +kernel

set_option maxHeartbeats 4000000 in
set_option maxRecDepth 100000 in
theorem countBegun (w : World) : Calls Tryz.prog 22 #[] w fun e w' => e = .returned (.bool true) ∧ Below w.heap.size w w' := by
  go_enter Tryz.func22, Tryz.ntmps22
  go_wp2_with fail
  refine (lYard _).mono ?_
  rintro e W1 ⟨u1, rfl, hu1, hb1⟩
  go_wp2_with fail
  refine (lBusy _).mono ?_
  rintro e W2 ⟨V2, rfl, ho2, hb2⟩
  go_wp2_with fail
  refine (begCt begC1 W2 _ _ (hu1.grow hb2) (ho2.view0 (by decide))).mono ?_
  rintro e W3 ⟨V3, rfl, ho3, hb3⟩
  have hone4 := (ho3).one
  have hnb4 := newBox (W3)
  go_wp2_with (refine wpList_store_state rfl (.tmp 1) (.tmp 11) rfl rfl (World.heap (W3)).size nilSV V3 hnb4 rfl rfl hone4 (fun w4 hbox4 hg4 => ?_); refine Hid.out ?_)
  unfold Hid
  have hbb4 := newBelow hg4
  have hbl4 := hbox4.lt
  clear hone4 hnb4 hg4
  have ha4 := hb1.trans ((hb2.trans ((hb3.trans (hbb4.mono hb3.size)).mono hb2.size)).mono hb1.size)
  have ho4 := Lib.hid (ho3.below hbb4)
  have hbox4' := Lib.hid hbox4
  clear ho3 hbox4 hbb4 hb3 hb2 hb1 hu1 ho2
  go_wp2_with fail
  refine (lYard _).mono ?_
  rintro e W5 ⟨u5, rfl, hu5, hb5⟩
  go_wp2_with fail
  refine (lBusy _).mono ?_
  rintro e W6 ⟨V6, rfl, ho6, hb6⟩
  go_wp2_with fail
  refine (begCt begC2 W6 _ _ (hu5.grow hb6) (ho6.view0 (by decide))).mono ?_
  rintro e W7 ⟨V7, rfl, ho7, hb7⟩
  have hone8 := (ho7).one
  have hnb8 := newBox (W7)
  go_wp2_with (refine wpList_store_state rfl (.tmp 3) (.tmp 17) rfl rfl (World.heap (W7)).size nilSV V7 hnb8 rfl rfl hone8 (fun w8 hbox8 hg8 => ?_); refine Hid.out ?_)
  unfold Hid
  have hbb8 := newBelow hg8
  have hbl8 := hbox8.lt
  clear hone8 hnb8 hg8
  have ha8 := hb5.trans ((hb6.trans ((hb7.trans (hbb8.mono hb7.size)).mono hb6.size)).mono hb5.size)
  have ho8 := Lib.hid (ho7.below hbb8)
  have hbox8' := Lib.hid hbox8
  clear ho7 hbox8 hbb8 hb7 hb6 hb5 hu5 ho6
  go_wp2_with fail
  refine (lYard _).mono ?_
  rintro e W9 ⟨u9, rfl, hu9, hb9⟩
  go_wp2_with fail
  refine (lBusy _).mono ?_
  rintro e W10 ⟨V10, rfl, ho10, hb10⟩
  go_wp2_with fail
  refine (begCt begC3 W10 _ _ (hu9.grow hb10) (ho10.view0 (by decide))).mono ?_
  rintro e W11 ⟨V11, rfl, ho11, hb11⟩
  have hone12 := (ho11).one
  have hnb12 := newBox (W11)
  go_wp2_with (refine wpList_store_state rfl (.tmp 5) (.tmp 23) rfl rfl (World.heap (W11)).size nilSV V11 hnb12 rfl rfl hone12 (fun w12 hbox12 hg12 => ?_); refine Hid.out ?_)
  unfold Hid
  have hbb12 := newBelow hg12
  have hbl12 := hbox12.lt
  clear hone12 hnb12 hg12
  have ha12 := hb9.trans ((hb10.trans ((hb11.trans (hbb12.mono hb11.size)).mono hb10.size)).mono hb9.size)
  have ho12 := Lib.hid (ho11.below hbb12)
  have hbox12' := Lib.hid hbox12
  clear ho11 hbox12 hbb12 hb11 hb10 hb9 hu9 ho10
  have h8z := ha8.trans (ha12.mono ha8.size)
  have hB := ha4.trans (h8z.mono ha4.size)
  have hA := ho4.out.below h8z
  have hBs := ho8.out.below ha12
  have hbA := hbox4'.out.below h8z hbl4
  have hbB := hbox8'.out.below ha12 hbl8
  clear ho4 ho8 ho12 hbox4' hbox8' hbox12' ha12 ha8 ha4 h8z
  obtain ⟨pA0, pA1, pA2, pA3, _, _, pA6⟩ := hbA.cells
  obtain ⟨pB0, pB1, _, _, _, _, pB6⟩ := hbB.cells
  obtain ⟨gon, con, cur0, gr, cr, cur, eon, _, _, r0, _, _, _, rc⟩ := hA.onAt (b := 0) (g := 0) (by rw [ctA_on]; decide) (by rw [ctA_row]; decide)
  rw [ctA_on] at eon
  rw [ctA_row] at r0
  rw [ctA_cell] at rc
  rw [eon] at pA0
  obtain ⟨gu, cu, curu, eu, _, _, ru⟩ := OwnSt.intAtOwn hA.fixed (g := 0) (by rw [ctA_fixed]; decide)
  rw [ctA_fixed] at eu
  rw [ctA_fixed0] at ru
  rw [eu] at pA6
  obtain ⟨Am, cm, vm⟩ := hA.moves.isSlice
  rw [ctA_moves] at vm
  rw [vm] at pA3
  obtain ⟨go, co, curo, vO, hgo, blko, kO, kL⟩ := hA.orderAt (o := 0) (by rw [ctA_orders]; decide)
  obtain ⟨gl, cl, curl, vL, hgl, blkl, kl0, kl1, kl2, kl3⟩ := hA.lineAt (o := 0) (k := 0) (by rw [ctA_orders]; decide) (by rw [ctA_lines]; decide)
  rw [ctA_orders] at vO
  rw [ctA_lines] at vL
  rw [vO] at pA1
  rw [vL] at kL
  rw [ctA_line] at kl3
  have kL : w12.cell? ⟨go, 1, none⟩ = some (.slice (some ⟨gl, 0, none⟩) 2 cl) := kL
  have kl3 : w12.cell? ⟨gl, 3, none⟩ = some (.int .i64 1) := kl3
  obtain ⟨gh, ch, curh, vH, _, _, hcell⟩ := hA.holds.at (fun _ => rfl) (show 0 < ctA.holds.length by rw [ctA_holds]; decide)
  rw [← hold_get] at hcell
  rw [ctA_holds] at vH
  rw [vH] at pA2
  have m3 : w12.cell? ⟨gh, 3, none⟩ = some (.int .i64 1) := by
    have := hcell 3 (.int .i64 (hold ctA.holds 0).n) rfl
    rw [ctA_hold] at this
    exact this
  obtain ⟨gon', con', cur0', gr', cr', cur', eon', _, _, r0', _, _, _, rc'⟩ := hBs.onAt (b := 2) (g := 1) (by rw [ctB_on]; decide) (by rw [ctB_row]; decide)
  rw [ctB_on] at eon'
  rw [ctB_row] at r0'
  rw [ctB_cell] at rc'
  rw [eon'] at pB0
  obtain ⟨gu', cu', curu', eu', _, _, ru'⟩ := OwnSt.intAtOwn hBs.fixed (g := 1) (by rw [ctB_fixed]; decide)
  rw [ctB_fixed] at eu'
  rw [ctB_fixed1] at ru'
  rw [eu'] at pB6
  obtain ⟨go', co', curo', vO', hgo', blko', kO', kL'⟩ := hBs.orderAt (o := 0) (by rw [ctB_orders]; decide)
  obtain ⟨gl', cl', curl', vL', hgl', blkl', kl0', kl1', kl2', kl3'⟩ := hBs.lineAt (o := 0) (k := 1) (by rw [ctB_orders]; decide) (by rw [ctB_lines]; decide)
  rw [ctB_orders] at vO'
  rw [ctB_lines] at vL'
  rw [vO'] at pB1
  rw [vL'] at kL'
  rw [ctB_line] at kl3'
  have kL' : w12.cell? ⟨go', 1, none⟩ = some (.slice (some ⟨gl', 0, none⟩) 2 cl') := kL'
  have kl3' : w12.cell? ⟨gl', 7, none⟩ = some (.int .i64 3) := kl3'
  clear hcell vH vO vL vm vO' vL' eon eon' eu eu' hA hBs hbA hbB blko blkl blko' blkl' hgo hgl hgo' hgl' kO kO' kl0 kl1 kl2 kl0' kl1' kl2'
  go_wp2_with fail
  go_ret
  exact ⟨rfl, hB⟩
end Wh
namespace Wh
open Go Go.RowKit Go.Shelf Go.Proofs
attribute [local go_sem] run_indexAt_letter evL_tmp evL_const evL_func

set_option maxHeartbeats 4000000 in
set_option maxRecDepth 100000 in
theorem countCountsWalk (w : World) (v vs : Value) (p : Plan) (s : State) (b g n : Int) (hp : PlanV w w.heap.size v p) (hv : StateV w w.heap.size vs s) :
    Calls Tryz.prog 4 #[v, vs, .int .i64 b, .int .i64 g, .int .i64 n] w fun e w' => e = .returned (.bool true) ∧ Below w.heap.size w w' := by
  obtain ⟨Ab, cb, As, cs, rfl, hP', hBn, hSz, hlb, hls⟩ := openPl hp
  obtain ⟨A0, c0, A1, c1, A2, c2, A3, c3, A4, c4, A5, c5, A6, c6, rfl, hV, hN, hO, hH, hM, hI, hU, hX, hl0, hl1, hl2, hl3, hl4, hl5, hl6⟩ := openOne hv
  go_enter Tryz.func4, Tryz.ntmps4
  go_wp2_with fail
  obtain ⟨W0, hW0, hb0, hsz0, hsz1, hsE, hK⟩ := boxesTwo w p s Ab cb As cs A0 c0 A1 c1 A2 c2 A3 c3 A4 c4 A5 c5 A6 c6
  rw [hW0]
  clear hW0
  obtain ⟨⟨y0, y1⟩, x0, x1, x2, x3, x4, x5, x6, hbz0, hbz1⟩ := hK.out W0 (Below.refl W0.heap.size W0)
  go_wp2_with fail
  clear y0 y1 x0 x1 x2 x3 x4 x5 x6 hbz0 hbz1
  refine (ctCount _ _ _ p s b g n (hP'.out _ hb0) (hV.out _ hb0) ).mono ?_
  rintro e W1 ⟨V1, rfl, ho1, hb1⟩
  have hone2 := (ho1).one
  have hnb2 := newBox (W1)
  go_wp2_with (refine wpList_store_state rfl (.tmp 11) (.tmp 22) rfl rfl (World.heap (W1)).size nilSV V1 hnb2 rfl rfl hone2 (fun w2 hbox2 hg2 => ?_); refine Hid.out ?_)
  unfold Hid
  have hbb2 := newBelow hg2
  have hbl2 := hbox2.lt
  clear hone2 hnb2 hg2
  have hb02 := hb1.trans (hbb2.mono hb1.size)
  have hB2 := hb0.trans (hb02.mono hb0.size)
  have hv1 := Lib.hid ((ho1.below hbb2).view0 (count_small p s b g n))
  have hbox2' := Lib.hid hbox2
  clear hbox2 ho1 hb1 hbb2
  obtain ⟨⟨y0, y1⟩, x0, x1, x2, x3, x4, x5, x6, hbz0, hbz1⟩ := hK.out w2 (hb02)
  go_wp2_with fail
  clear y0 y1 x0 x1 x2 x3 x4 x5 x6 hbz0 hbz1
  refine (rCountOf _ _ _ p s b g n (hP'.out _ hB2) (hV.out _ hB2) ).mono ?_
  rintro e W3 ⟨V3, rfl, ho3, hb3⟩
  have hone4 := (ho3).one
  have hnb4 := newBox (W3)
  go_wp2_with (refine wpList_store_state rfl (.tmp 13) (.tmp 31) rfl rfl (World.heap (W3)).size nilSV V3 hnb4 rfl rfl hone4 (fun w4 hbox4 hg4 => ?_); refine Hid.out ?_)
  unfold Hid
  have hbb4 := newBelow hg4
  have hbl4 := hbox4.lt
  clear hone4 hnb4 hg4
  have h24 := hb3.trans (hbb4.mono hb3.size)
  have h04 := hb02.trans (h24.mono hb02.size)
  have hB4 := hb0.trans (h04.mono hb0.size)
  have hv3 := Lib.hid ((ho3.below hbb4).view0 (count_small p s b g n))
  have hv1' := Lib.hid (hv1.out.grow h24)
  have hbox4' := Lib.hid hbox4
  have hbox2'' := Lib.hid (hbox2'.out.below h24 hbl2)
  have hbl2' := Nat.lt_of_lt_of_le hbl2 h24.size
  clear hbox4 ho3 hb3 hbb4 hbox2' hv1 hb02 hB2 hbl2
  go_wp2_with fail
  refine (countBegun _).mono ?_
  rintro e W5 ⟨rfl, h5⟩
  have hB5 := hB4.trans (h5.mono hB4.size)
  obtain ⟨p0, p1, p2, p3, p4, p5, p6⟩ := (hbox2''.out.below h5 hbl2').cells
  obtain ⟨q0, q1, q2, q3, q4, q5, q6⟩ := (hbox4'.out.below h5 hbl4).cells
  have hx1 := hv1'.out.grow h5
  have hx2 := hv3.out.grow h5
  go_wp2_with fail
  clear p0 p1 p2 p3 p4 p5 p6 q0 q1 q2 q3 q4 q5 q6
  refine (rSameStates _ _ _ _ hx1 hx2).mono ?_
  rintro e W6 ⟨rfl, h6⟩
  go_wp2_with fail
  go_ret
  exact ⟨rfl, hB5.trans (h6.mono hB5.size)⟩
end Wh
namespace Wh
open Go Go.RowKit Go.ChangeShapes Go.WideShapes Go.Deep

theorem cell_lt {w : World} {a : Addr} {v : Value} (h : w.cell? a = some v) : a.block < w.heap.size := by
  by_cases hlt : a.block < w.heap.size
  · exact hlt
  · unfold World.cell? at h
    rw [Array.getElem?_eq_none (by omega)] at h
    simp at h

section
variable {H : Type} {en : TypeId × Value → H} {P : Program} {w : World} {base : Nat} {sp : Nat → Bool} {hd : Bool}

/-- Reads, and each of its slices is within the reach. -/
def Rd (en : TypeId × Value → H) (P : Program) (w : World) (base : Nat) (sp : Nat → Bool) (hd : Bool) (t : TypeId) (cs : List Value) : Prop :=
  ∃ (n : Nat) (x : DataW H × List MemPlace), DataW.trod en P w base sp hd n t cs = some x ∧ ∀ k ∈ x.1.weights P t, k ≤ reachBytes

theorem Rd.int {t : TypeId} {cs : List Value} (ht : P.underlying t = some (.int .i64)) (h : Rd en P w base sp hd t cs) : ∃ n, cs = [.int .i64 n] := by
  obtain ⟨n, x, h, _⟩ := h
  obtain ⟨m, hm, _⟩ := DataW.trod_int ht h
  exact ⟨m, hm⟩
theorem Rd.bool {t : TypeId} {cs : List Value} (ht : P.underlying t = some .bool) (h : Rd en P w base sp hd t cs) : ∃ b, cs = [.bool b] := by
  obtain ⟨n, x, h, _⟩ := h
  obtain ⟨m, hm, _⟩ := DataW.trod_bool ht h
  exact ⟨m, hm⟩

theorem Rd.fields {t : TypeId} {fs : Array Field} {cs : List Value} (hs : P.underlying t = some (.struct fs)) (hone : oneCellFields P fs = true) (hC : P.cellsOf t = fs.size) (h : Rd en P w base sp hd t cs) :
    cs.length = fs.size ∧ ∀ (j : Nat) (f : Field), fs[j]? = some f → ∃ v, cs[j]? = some v ∧ Rd en P w base sp hd f.type [v] := by
  obtain ⟨n, x, h, hw⟩ := h
  obtain ⟨xs, m, _, hx, hlen, hxl, hf⟩ := DataW.trod_struct hs h
  rw [hC] at hlen
  refine ⟨hlen, fun j f hj => ?_⟩
  have hjl : j < fs.size := (Array.getElem?_eq_some_iff.1 hj).1
  obtain ⟨ho, hk⟩ := hone_of hone j f hj
  have h1 := hf j f hj
  rw [ho, hk, List.drop_eq_getElem_cons (by omega)] at h1
  have hys : xs[j]? = some (xs[j]'(by omega)) := List.getElem?_eq_getElem (by omega)
  refine ⟨cs[j]'(by omega), List.getElem?_eq_getElem (by omega), m, xs[j]'(by omega), by rw [← hys, ← h1]; rfl, fun k hkm => hw k ?_⟩
  rw [hx]
  simp only [DataW.weights, hs]
  refine DataW.weights_mem_each (j := j) (t := f.type) (d := (xs[j]'(by omega)).1) ?_ ?_ k hkm
  · rw [List.getElem?_map, Array.getElem?_toList, hj]; rfl
  · rw [List.getElem?_map, hys]; rfl

theorem weights_mem_all {e : TypeId} : ∀ {ds : List (DataW H)} {j : Nat} {d : DataW H}, ds[j]? = some d → ∀ n ∈ d.weights P e, n ∈ DataW.weightsAll P e ds
  | d0 :: ds, 0, d, hd, n, hn => by
    simp only [List.getElem?_cons_zero, Option.some.injEq] at hd
    subst hd
    simp only [DataW.weightsAll, List.mem_append]
    exact Or.inl hn
  | d0 :: ds, j + 1, d, hd, n, hn => by
    simp only [List.getElem?_cons_succ] at hd
    simp only [DataW.weightsAll, List.mem_append]
    exact Or.inr (weights_mem_all hd n hn)
  | [], _, _, hd, _, _ => by simp at hd

/-- A slice's elements, each by itself. -/
theorem Rd.slice {t e : TypeId} {k : Nat} {cs : List Value} (ht : P.underlying t = some (.slice e)) (hC : P.cellsOf e = k) (hB : 0 < P.bytesOf e) (h : Rd en P w base sp hd t cs) :
    ∃ (A : Option Addr) (len c : Nat), cs = [.slice A len c] ∧ len ≤ 140737488355232 ∧
      ∀ i, i < len → ∃ cs', cs'.length = k ∧ Rd en P w base sp hd e cs' ∧ ∀ j v, cs'[j]? = some v → okA A ∧ ablk A < w.heap.size ∧ w.cell? ⟨ablk A, aoff A + (i * k + j), none⟩ = some v := by
  obtain ⟨n, x, h, hw⟩ := h
  rcases open_slice ht h with ⟨rfl, _⟩ | ⟨a, len, cap, m, n', D, Pl, rfl, _, hl, _, hm, hx, hi⟩
  · exact ⟨none, 0, 0, rfl, by omega, fun i hi => by omega⟩
  · have hlm : len ≤ m := by rw [hm]; split <;> omega
    have hreach : (len + (m - len)) * P.bytesOf e ≤ reachBytes := hw _ (by rw [hx]; simp [DataW.weights, ht])
    have hspot : 0 < len → 0 < k → a.spot = none := fun h1 h2 => by
      obtain ⟨cs', hc, _⟩ := hi 0 (by omega)
      rw [hC] at hc
      obtain ⟨_, hcl, hat⟩ := World.cells?_some hc
      have hcell := hat 0 h2
      rw [List.getElem?_eq_getElem (by omega), add_add] at hcell
      have := World.cell?_spot hcell
      simpa [Addr.add] using this
    refine ⟨some a, len, cap, rfl, ?_, fun i hi' => ?_⟩
    · have h1 : len * 1 ≤ (len + (m - len)) * P.bytesOf e := Nat.mul_le_mul (by omega) hB
      simp only [reachBytes] at hreach
      omega
    · obtain ⟨cs', hc, ht'⟩ := hi i (by omega)
      rw [hC] at hc
      obtain ⟨_, hcl, hat⟩ := World.cells?_some hc
      refine ⟨cs', hcl, ⟨n', _, ht', fun q hq => hw q ?_⟩, fun j v hj => ?_⟩
      · rw [hx]
        simp only [DataW.weights, ht, List.mem_cons, List.mem_append]
        refine .inr (.inl (weights_mem_all (j := i) (d := D i) ?_ q hq))
        rw [List.getElem?_map, List.getElem?_range hi']; rfl
      · have hjl : j < k := by rw [← hcl]; exact (List.getElem?_eq_some_iff.1 hj).1
        have hcell := hat j hjl
        rw [hj, add_add] at hcell
        obtain ⟨b, off, spot⟩ := a
        obtain rfl : spot = none := hspot (by omega) (by omega)
        rw [Addr.add_lit] at hcell
        exact ⟨okA_some _ _, cell_lt (a := ⟨b, off + (i * k + j), none⟩) hcell, hcell⟩

/-- A slice whose elements are all of the form 'enc x'. -/
theorem Rd.sl {α : Type} {enc : α → List Value} {k : Nat} {t e : TypeId} {cs : List Value} [Inhabited α] (ht : P.underlying t = some (.slice e)) (hC : P.cellsOf e = k) (hB : 0 < P.bytesOf e) (hk : ∀ x, (enc x).length = k) (h0 : 0 < k)
    (hel : ∀ cs', cs'.length = k → Rd en P w base sp hd e cs' → ∃ x : α, cs' = enc x) (h : Rd en P w base sp hd t cs) : ∃ v l, cs = [v] ∧ Sl enc w w.heap.size v l := by
  obtain ⟨A, len, c, rfl, hlen, hi⟩ := h.slice ht hC hB
  obtain ⟨X, hX⟩ := choose_lt (α := α) (n := len) (p := fun i x => ∀ j v, (enc x)[j]? = some v → okA A ∧ ablk A < w.heap.size ∧ w.cell? ⟨ablk A, aoff A + (i * k + j), none⟩ = some v) (fun i hil => by
    obtain ⟨cs', h1, h2, h3⟩ := hi i hil
    obtain ⟨x, rfl⟩ := hel cs' h1 h2
    exact ⟨x, h3⟩)
  refine ⟨_, (List.range len).map X, rfl, A, c, by simp, by simpa using hlen, fun hn => ?_⟩
  have hcell : ∀ j v, (((List.range len).map X).flatMap enc)[j]? = some v → okA A ∧ ablk A < w.heap.size ∧ w.cell? ⟨ablk A, aoff A + j, none⟩ = some v := fun j v hj => by
    have hjl : j < len * k := by
      have := (List.getElem?_eq_some_iff.1 hj).1
      rw [flat_length enc k hk] at this
      simpa using this
    have hq : j / k < len := (Nat.div_lt_iff_lt_mul h0).2 hjl
    have e1 : j / k * k + j % k = j := by rw [Nat.mul_comm]; exact Nat.div_add_mod j k
    have e2 := flat_get enc k hk ((List.range len).map X) (j / k) (j % k) (X (j / k)) (by rw [List.getElem?_map, List.getElem?_range hq]; rfl) (Nat.mod_lt _ h0)
    rw [e1, hj] at e2
    have := hX (j / k) hq (j % k) v e2.symm
    rwa [e1] at this
  have hlp : 0 < (((List.range len).map X).flatMap enc).length := List.length_pos_iff.2 hn
  obtain ⟨h1, h2, _⟩ := hcell 0 _ (List.getElem?_eq_getElem hlp)
  exact ⟨h1, h2, fun j v hj => (hcell j v hj).2.2⟩

/-- A slice of one-cell elements, each with a reading of its own. -/
theorem Rd.cells {α : Type} [Inhabited α] {k : Nat} {t e : TypeId} {cs : List Value} {enc : Value → α → List Value} {Q : Value → α → Prop} (ht : P.underlying t = some (.slice e)) (hC : P.cellsOf e = k) (hB : 0 < P.bytesOf e) (hk : ∀ v x, (enc v x).length = k) (h0 : 0 < k)
    (hel : ∀ cs', cs'.length = k → Rd en P w base sp hd e cs' → ∃ (v : Value) (x : α), cs' = enc v x ∧ Q v x) (h : Rd en P w base sp hd t cs) :
    ∃ (A : Option Addr) (c : Nat) (l : List α) (vs : List Value), cs = [.slice A l.length c] ∧ l.length ≤ 140737488355232 ∧ vs.length = l.length ∧ At w w.heap.size A ((l.zip vs).flatMap fun x => enc x.2 x.1) ∧
      ∀ (i : Nat) (x : α), l[i]? = some x → ∃ u, vs[i]? = some u ∧ Q u x := by
  obtain ⟨A, len, c, rfl, hlen, hi⟩ := h.slice ht hC hB
  obtain ⟨X, hX⟩ := choose_lt (α := α × Value) (n := len) (p := fun i x => Q x.2 x.1 ∧ ∀ j v, (enc x.2 x.1)[j]? = some v → okA A ∧ ablk A < w.heap.size ∧ w.cell? ⟨ablk A, aoff A + (i * k + j), none⟩ = some v) (fun i hil => by
    obtain ⟨cs', h1, h2, h3⟩ := hi i hil
    obtain ⟨v, x, rfl, hq⟩ := hel cs' h1 h2
    exact ⟨(x, v), hq, h3⟩)
  refine ⟨A, c, (List.range len).map (fun i => (X i).1), (List.range len).map (fun i => (X i).2), by simp, by simpa using hlen, by simp, ?_, fun i x hix => ?_⟩
  · have hz : ((List.range len).map (fun i => (X i).1)).zip ((List.range len).map (fun i => (X i).2)) = (List.range len).map X := by
      rw [List.zip_map']
    rw [hz]
    intro hn
    have hcell : ∀ j v, (((List.range len).map X).flatMap fun x => enc x.2 x.1)[j]? = some v → okA A ∧ ablk A < w.heap.size ∧ w.cell? ⟨ablk A, aoff A + j, none⟩ = some v := fun j v hj => by
      have hjl : j < len * k := by
        have := (List.getElem?_eq_some_iff.1 hj).1
        rw [flat_length (fun x : α × Value => enc x.2 x.1) k (fun x => hk _ _)] at this
        simpa using this
      have hq : j / k < len := (Nat.div_lt_iff_lt_mul h0).2 hjl
      have e1 : j / k * k + j % k = j := by rw [Nat.mul_comm]; exact Nat.div_add_mod j k
      have e2 := flat_get (fun x : α × Value => enc x.2 x.1) k (fun x => hk _ _) ((List.range len).map X) (j / k) (j % k) (X (j / k)) (by rw [List.getElem?_map, List.getElem?_range hq]; rfl) (Nat.mod_lt _ h0)
      rw [e1, hj] at e2
      have := (hX (j / k) hq).2 (j % k) v e2.symm
      rwa [e1] at this
    have hlp : 0 < (((List.range len).map X).flatMap fun x => enc x.2 x.1).length := List.length_pos_iff.2 hn
    obtain ⟨h1, h2, _⟩ := hcell 0 _ (List.getElem?_eq_getElem hlp)
    exact ⟨h1, h2, fun j v hj => (hcell j v hj).2.2⟩
  · rw [List.getElem?_map] at hix
    obtain ⟨i', hi', rfl⟩ := Option.map_eq_some_iff.1 hix
    have hil : i < len := by
      have := (List.getElem?_eq_some_iff.1 hi').1
      simpa using this
    rw [List.getElem?_range hil] at hi'
    obtain rfl := Option.some.inj hi'
    exact ⟨(X i).2, by rw [List.getElem?_map, List.getElem?_range hil]; rfl, (hX i hil).1⟩

theorem Rd.four {t : TypeId} {cs : List Value} {fs : Array Field} (hs : P.underlying t = some (.struct fs)) (hone : oneCellFields P fs = true) (hC : P.cellsOf t = fs.size) (hn : fs.size = 4)
    (h : Rd en P w base sp hd t cs) : ∃ v0 v1 v2 v3, cs = [v0, v1, v2, v3] ∧ ∀ (j : Nat) (f : Field), fs[j]? = some f → ∃ v, [v0, v1, v2, v3][j]? = some v ∧ Rd en P w base sp hd f.type [v] := by
  obtain ⟨hl, hf⟩ := h.fields hs hone hC
  rw [hn] at hl
  match cs, hl with
  | [v0, v1, v2, v3], _ => exact ⟨v0, v1, v2, v3, rfl, hf⟩
end
end Wh
namespace Wh
open Go Go.RowKit Go.ChangeShapes Go.WideShapes Go.Deep Go.Proofs

instance : Inhabited Bin := ⟨⟨false, 0, 0, 0⟩⟩
instance : Inhabited Hold := ⟨⟨0, 0, 0, 0⟩⟩

def structFields (P : Program) (t : TypeId) : Array Field := match P.underlying t with
  | some (.struct fs) => fs
  | _ => #[]
theorem fields_eq {P : Program} {t : TypeId} (h : (match P.underlying t with | some (.struct _) => true | _ => false) = true) : P.underlying t = some (.struct (structFields P t)) := by
  unfold structFields
  split at h
  · rename_i h'; rw [h']
  · cases h

theorem u_int : Tryz.prog.underlying 3 = some (.int .i64) := by kernel_rfl
theorem u_bool : Tryz.prog.underlying 4 = some .bool := by kernel_rfl
theorem u_ints : Tryz.prog.underlying 23 = some (.slice 3) := by kernel_rfl
theorem u_rows : Tryz.prog.underlying 26 = some (.slice 23) := by kernel_rfl
theorem u_bins : Tryz.prog.underlying 22 = some (.slice 125) := by kernel_rfl
theorem c_int : Tryz.prog.cellsOf 3 = 1 := by kernel_rfl
theorem c_ints : Tryz.prog.cellsOf 23 = 1 := by kernel_rfl
theorem b_int : 0 < Tryz.prog.bytesOf 3 := of_decide_eq_true (by kernel_rfl)
theorem b_ints : 0 < Tryz.prog.bytesOf 23 := of_decide_eq_true (by kernel_rfl)
theorem b_bin : 0 < Tryz.prog.bytesOf 125 := of_decide_eq_true (by kernel_rfl)
theorem s_bin : Tryz.prog.underlying 125 = some (.struct (structFields Tryz.prog 125)) := fields_eq (by kernel_rfl)
theorem o_bin : oneCellFields Tryz.prog (structFields Tryz.prog 125) = true := by kernel_rfl
theorem n_bin : (structFields Tryz.prog 125).size = 4 := by kernel_rfl
theorem c_bin : Tryz.prog.cellsOf 125 = 4 := by kernel_rfl
theorem f_bin : (structFields Tryz.prog 125).toList.map (·.type) = [4, 3, 3, 3] := by kernel_rfl
theorem s_plan : Tryz.prog.underlying 25 = some (.struct (structFields Tryz.prog 25)) := fields_eq (by kernel_rfl)
theorem o_plan : oneCellFields Tryz.prog (structFields Tryz.prog 25) = true := by kernel_rfl
theorem n_plan : (structFields Tryz.prog 25).size = 2 := by kernel_rfl
theorem c_plan : Tryz.prog.cellsOf 25 = 2 := by kernel_rfl
theorem f_plan : (structFields Tryz.prog 25).toList.map (·.type) = [22, 23] := by kernel_rfl

section
variable {H : Type} {en : TypeId × Value → H} {w : World} {base : Nat} {sp : Nat → Bool} {hd : Bool}
theorem Rd.field {P : Program} {t : TypeId} {fs : Array Field} {cs : List Value} {ts : List TypeId} (hs : P.underlying t = some (.struct fs)) (hone : oneCellFields P fs = true) (hC : P.cellsOf t = fs.size) (hf : fs.toList.map (·.type) = ts)
    (h : Rd en P w base sp hd t cs) (j : Nat) (t' : TypeId) (hj : ts[j]? = some t') : ∃ v, cs[j]? = some v ∧ Rd en P w base sp hd t' [v] := by
  subst hf
  rw [List.getElem?_map, Array.getElem?_toList] at hj
  obtain ⟨f, hf, rfl⟩ := Option.map_eq_some_iff.1 hj
  exact (h.fields hs hone hC).2 j f hf
abbrev Rt (en : TypeId × Value → H) (w : World) (base : Nat) (sp : Nat → Bool) (hd : Bool) (t : TypeId) (cs : List Value) : Prop := Rd en Tryz.prog w base sp hd t cs
theorem Rt.ints {cs : List Value} (h : Rt en w base sp hd 23 cs) : ∃ v l, cs = [v] ∧ Sl cInt w w.heap.size v l :=
  Rd.sl u_ints c_int b_int (fun _ => rfl) (by decide) (fun cs' _ h => h.int u_int) h
theorem Rt.rows {cs : List Value} (h : Rt en w base sp hd 26 cs) : ∃ v l, cs = [v] ∧ SlSl cInt w w.heap.size v l := by
  obtain ⟨A, c, l, vs, rfl, h1, h2, h3, h4⟩ := Rd.cells (α := List Int) (k := 1) (enc := fun v _ => [v]) (Q := fun v x => Sl cInt w w.heap.size v x) u_rows c_ints b_ints (fun _ _ => rfl) (by decide) (fun cs' _ h => by
    obtain ⟨v, l, rfl, hs⟩ := Rt.ints h
    exact ⟨v, l, rfl, hs⟩) h
  refine ⟨_, l, rfl, A, c, vs, rfl, h1, h2, ?_, h4⟩
  have : ((l.zip vs).flatMap fun x => [x.2]) = vs := by
    rw [← List.map_eq_flatMap, List.map_snd_zip]
    omega
  rwa [this] at h3
theorem Rt.bin {cs : List Value} (hl : cs.length = 4) (h : Rt en w base sp hd 125 cs) : ∃ b, cs = cBin b := by
  match cs, hl with
  | [v0, v1, v2, v3], _ =>
    obtain ⟨x0, e0, r0⟩ := h.field s_bin o_bin (c_bin.trans n_bin.symm) f_bin 0 _ rfl
    obtain ⟨x1, e1, r1⟩ := h.field s_bin o_bin (c_bin.trans n_bin.symm) f_bin 1 _ rfl
    obtain ⟨x2, e2, r2⟩ := h.field s_bin o_bin (c_bin.trans n_bin.symm) f_bin 2 _ rfl
    obtain ⟨x3, e3, r3⟩ := h.field s_bin o_bin (c_bin.trans n_bin.symm) f_bin 3 _ rfl
    obtain rfl := Option.some.inj e0
    obtain rfl := Option.some.inj e1
    obtain rfl := Option.some.inj e2
    obtain rfl := Option.some.inj e3
    obtain ⟨b0, q0⟩ := r0.bool u_bool
    obtain ⟨b1, q1⟩ := r1.int u_int
    obtain ⟨b2, q2⟩ := r2.int u_int
    obtain ⟨b3, q3⟩ := r3.int u_int
    obtain rfl := (List.cons.inj q0).1
    obtain rfl := (List.cons.inj q1).1
    obtain rfl := (List.cons.inj q2).1
    obtain rfl := (List.cons.inj q3).1
    exact ⟨⟨b0, b1, b2, b3⟩, rfl⟩
theorem Rt.bins {cs : List Value} (h : Rt en w base sp hd 22 cs) : ∃ v l, cs = [v] ∧ Sl cBin w w.heap.size v l :=
  Rd.sl u_bins c_bin b_bin (fun _ => rfl) (by decide) (fun _ hl h => Rt.bin hl h) h
theorem Rt.plan {cs : List Value} (hl : cs.length = 2) (h : Rt en w base sp hd 25 cs) : ∃ v0 v1 p, cs = [v0, v1] ∧ PlanV w w.heap.size (.agg #[v0, v1]) p := by
  match cs, hl with
  | [v0, v1], _ =>
    obtain ⟨x0, e0, r0⟩ := h.field s_plan o_plan (c_plan.trans n_plan.symm) f_plan 0 _ rfl
    obtain ⟨x1, e1, r1⟩ := h.field s_plan o_plan (c_plan.trans n_plan.symm) f_plan 1 _ rfl
    obtain rfl := Option.some.inj e0
    obtain rfl := Option.some.inj e1
    obtain ⟨_, l0, q0, hs0⟩ := Rt.bins r0
    obtain ⟨_, l1, q1, hs1⟩ := Rt.ints r1
    obtain rfl := (List.cons.inj q0).1
    obtain rfl := (List.cons.inj q1).1
    exact ⟨_, _, ⟨l0, l1⟩, rfl, _, _, rfl, hs0, hs1⟩
theorem rd_of {P : Program} {ts : List TypeId} {ds : List (DataW H)} {j : Nat} {t : TypeId} {v : Value} {d : DataW H} {ps : List MemPlace} (hsz : (DataW.weightsEach P ts ds).all (· ≤ reachBytes) = true) (ht : ts[j]? = some t) (hds : ds[j]? = some d)
    (h : DataW.Trod en P w base sp hd t v d ps) : Rd en P w base sp hd t v.cells.toList := by
  obtain ⟨n, hn⟩ := h
  exact ⟨n, _, hn, fun k hk => by simpa using List.all_eq_true.1 hsz _ (DataW.weights_mem_each ht hds k hk)⟩
set_option maxRecDepth 100000 in
theorem plan_of {b0 : Nat} {r : Reach} {v : Value} (hv : Value.okWide Tryz.prog w r b0 25 v) (h : Rt en w base sp hd 25 v.cells.toList) : ∃ p, PlanV w w.heap.size v p := by
  obtain ⟨cs, rfl, hsz⟩ := okWide_struct s_plan hv
  obtain ⟨l⟩ := cs
  obtain ⟨v0, v1, p, e, hp⟩ := Rt.plan (by simpa [Value.cells] using hsz.trans c_plan) h
  have e' : l = [v0, v1] := by simpa [Value.cells] using e
  subst e'
  exact ⟨p, hp⟩
end
end Wh
namespace Wh
open Go Go.RowKit Go.ChangeShapes Go.WideShapes Go.Deep Go.Proofs

theorem u_holds : Tryz.prog.underlying 28 = some (.slice 46) := by kernel_rfl
theorem b_hold : 0 < Tryz.prog.bytesOf 46 := of_decide_eq_true (by kernel_rfl)
theorem s_hold : Tryz.prog.underlying 46 = some (.struct (structFields Tryz.prog 46)) := fields_eq (by kernel_rfl)
theorem o_hold : oneCellFields Tryz.prog (structFields Tryz.prog 46) = true := by kernel_rfl
theorem n_hold : (structFields Tryz.prog 46).size = 4 := by kernel_rfl
theorem c_hold : Tryz.prog.cellsOf 46 = 4 := by kernel_rfl
theorem f_hold : (structFields Tryz.prog 46).toList.map (·.type) = [3, 3, 3, 3] := by kernel_rfl

section
variable {H : Type} {en : TypeId × Value → H} {w : World} {base : Nat} {sp : Nat → Bool} {hd : Bool}
theorem Rt.four_ints {t : TypeId} (s_t : Tryz.prog.underlying t = some (.struct (structFields Tryz.prog t))) (o_t : oneCellFields Tryz.prog (structFields Tryz.prog t) = true) (c_t : Tryz.prog.cellsOf t = (structFields Tryz.prog t).size)
    (f_t : (structFields Tryz.prog t).toList.map (·.type) = [3, 3, 3, 3]) {cs : List Value} (hl : cs.length = 4) (h : Rt en w base sp hd t cs) : ∃ a b c d : Int, cs = [.int .i64 a, .int .i64 b, .int .i64 c, .int .i64 d] := by
  match cs, hl with
  | [v0, v1, v2, v3], _ =>
    obtain ⟨x0, e0, r0⟩ := h.field s_t o_t c_t f_t 0 _ rfl
    obtain ⟨x1, e1, r1⟩ := h.field s_t o_t c_t f_t 1 _ rfl
    obtain ⟨x2, e2, r2⟩ := h.field s_t o_t c_t f_t 2 _ rfl
    obtain ⟨x3, e3, r3⟩ := h.field s_t o_t c_t f_t 3 _ rfl
    obtain rfl := Option.some.inj e0
    obtain rfl := Option.some.inj e1
    obtain rfl := Option.some.inj e2
    obtain rfl := Option.some.inj e3
    obtain ⟨b0, q0⟩ := r0.int u_int
    obtain ⟨b1, q1⟩ := r1.int u_int
    obtain ⟨b2, q2⟩ := r2.int u_int
    obtain ⟨b3, q3⟩ := r3.int u_int
    obtain rfl := (List.cons.inj q0).1
    obtain rfl := (List.cons.inj q1).1
    obtain rfl := (List.cons.inj q2).1
    obtain rfl := (List.cons.inj q3).1
    exact ⟨b0, b1, b2, b3, rfl⟩
theorem Rt.hold {cs : List Value} (hl : cs.length = 4) (h : Rt en w base sp hd 46 cs) : ∃ x, cs = cHold x := by
  obtain ⟨a, b, c, d, rfl⟩ := Rt.four_ints s_hold o_hold (c_hold.trans n_hold.symm) f_hold hl h
  exact ⟨⟨a, b, c, d⟩, rfl⟩
theorem Rt.holds {cs : List Value} (h : Rt en w base sp hd 28 cs) : ∃ v l, cs = [v] ∧ Sl cHold w w.heap.size v l :=
  Rd.sl u_holds c_hold b_hold (fun _ => rfl) (by decide) (fun _ hl h => Rt.hold hl h) h
end
end Wh
namespace Wh
open Go Go.RowKit Go.ChangeShapes Go.WideShapes Go.Deep Go.Proofs
instance : Inhabited Line := ⟨dLine⟩
instance : Inhabited Move := ⟨dMove⟩
instance : Inhabited Order := ⟨dOrder⟩

theorem u_lines : Tryz.prog.underlying 32 = some (.slice 44) := by kernel_rfl
theorem u_moves : Tryz.prog.underlying 29 = some (.slice 48) := by kernel_rfl
theorem u_orders : Tryz.prog.underlying 27 = some (.slice 42) := by kernel_rfl
theorem b_line : 0 < Tryz.prog.bytesOf 44 := of_decide_eq_true (by kernel_rfl)
theorem s_line : Tryz.prog.underlying 44 = some (.struct (structFields Tryz.prog 44)) := fields_eq (by kernel_rfl)
theorem o_line : oneCellFields Tryz.prog (structFields Tryz.prog 44) = true := by kernel_rfl
theorem n_line : (structFields Tryz.prog 44).size = 4 := by kernel_rfl
theorem c_line : Tryz.prog.cellsOf 44 = 4 := by kernel_rfl
theorem f_line : (structFields Tryz.prog 44).toList.map (·.type) = [3, 3, 3, 3] := by kernel_rfl
theorem b_move : 0 < Tryz.prog.bytesOf 48 := of_decide_eq_true (by kernel_rfl)
theorem s_move : Tryz.prog.underlying 48 = some (.struct (structFields Tryz.prog 48)) := fields_eq (by kernel_rfl)
theorem o_move : oneCellFields Tryz.prog (structFields Tryz.prog 48) = true := by kernel_rfl
theorem n_move : (structFields Tryz.prog 48).size = 4 := by kernel_rfl
theorem c_move : Tryz.prog.cellsOf 48 = 4 := by kernel_rfl
theorem f_move : (structFields Tryz.prog 48).toList.map (·.type) = [3, 3, 3, 3] := by kernel_rfl
theorem b_order : 0 < Tryz.prog.bytesOf 42 := of_decide_eq_true (by kernel_rfl)
theorem s_order : Tryz.prog.underlying 42 = some (.struct (structFields Tryz.prog 42)) := fields_eq (by kernel_rfl)
theorem o_order : oneCellFields Tryz.prog (structFields Tryz.prog 42) = true := by kernel_rfl
theorem n_order : (structFields Tryz.prog 42).size = 2 := by kernel_rfl
theorem c_order : Tryz.prog.cellsOf 42 = 2 := by kernel_rfl
theorem f_order : (structFields Tryz.prog 42).toList.map (·.type) = [3, 32] := by kernel_rfl
theorem s_state : Tryz.prog.underlying 31 = some (.struct (structFields Tryz.prog 31)) := fields_eq (by kernel_rfl)
theorem o_state : oneCellFields Tryz.prog (structFields Tryz.prog 31) = true := by kernel_rfl
theorem n_state : (structFields Tryz.prog 31).size = 7 := by kernel_rfl
theorem c_state : Tryz.prog.cellsOf 31 = 7 := by kernel_rfl
theorem f_state : (structFields Tryz.prog 31).toList.map (·.type) = [26, 27, 28, 29, 23, 23, 23] := by kernel_rfl

section
variable {H : Type} {en : TypeId × Value → H} {w : World} {base : Nat} {sp : Nat → Bool} {hd : Bool}
theorem Rt.line {cs : List Value} (hl : cs.length = 4) (h : Rt en w base sp hd 44 cs) : ∃ x, cs = cLine x := by
  obtain ⟨a, b, c, d, rfl⟩ := Rt.four_ints s_line o_line (c_line.trans n_line.symm) f_line hl h
  exact ⟨⟨a, b, c, d⟩, rfl⟩
theorem Rt.move {cs : List Value} (hl : cs.length = 4) (h : Rt en w base sp hd 48 cs) : ∃ x, cs = cMove x := by
  obtain ⟨a, b, c, d, rfl⟩ := Rt.four_ints s_move o_move (c_move.trans n_move.symm) f_move hl h
  exact ⟨⟨a, b, c, d⟩, rfl⟩
theorem Rt.lines {cs : List Value} (h : Rt en w base sp hd 32 cs) : ∃ v l, cs = [v] ∧ Sl cLine w w.heap.size v l :=
  Rd.sl u_lines c_line b_line (fun _ => rfl) (by decide) (fun _ hl h => Rt.line hl h) h
theorem Rt.moves {cs : List Value} (h : Rt en w base sp hd 29 cs) : ∃ v l, cs = [v] ∧ Sl cMove w w.heap.size v l :=
  Rd.sl u_moves c_move b_move (fun _ => rfl) (by decide) (fun _ hl h => Rt.move hl h) h
theorem Rt.order {cs : List Value} (hl : cs.length = 2) (h : Rt en w base sp hd 42 cs) : ∃ (v : Value) (x : Order), cs = [.int .i64 x.kind, v] ∧ Sl cLine w w.heap.size v x.lines := by
  match cs, hl with
  | [v0, v1], _ =>
    obtain ⟨x0, e0, r0⟩ := h.field s_order o_order (c_order.trans n_order.symm) f_order 0 _ rfl
    obtain ⟨x1, e1, r1⟩ := h.field s_order o_order (c_order.trans n_order.symm) f_order 1 _ rfl
    obtain rfl := Option.some.inj e0
    obtain rfl := Option.some.inj e1
    obtain ⟨b0, q0⟩ := r0.int u_int
    obtain ⟨_, l1, q1, hs1⟩ := Rt.lines r1
    obtain rfl := (List.cons.inj q0).1
    obtain rfl := (List.cons.inj q1).1
    exact ⟨_, ⟨b0, l1⟩, rfl, hs1⟩
theorem Rt.orders {cs : List Value} (h : Rt en w base sp hd 27 cs) : ∃ v l, cs = [v] ∧ SlOrders w w.heap.size v l := by
  obtain ⟨A, c, l, vs, rfl, h1, h2, h3, h4⟩ := Rd.cells (α := Order) (k := 2) (enc := fun v x => [.int .i64 x.kind, v]) (Q := fun v x => Sl cLine w w.heap.size v x.lines) u_orders c_order b_order (fun _ _ => rfl) (by decide) (fun cs' hl h => Rt.order hl h) h
  exact ⟨_, l, rfl, A, c, vs, rfl, h1, h2, h3, h4⟩
theorem Rt.state {cs : List Value} (hl : cs.length = 7) (h : Rt en w base sp hd 31 cs) : ∃ s, StateV w w.heap.size (.agg cs.toArray) s := by
  match cs, hl with
  | [v0, v1, v2, v3, v4, v5, v6], _ =>
    obtain ⟨x0, e0, r0⟩ := h.field s_state o_state (c_state.trans n_state.symm) f_state 0 _ rfl
    obtain ⟨x1, e1, r1⟩ := h.field s_state o_state (c_state.trans n_state.symm) f_state 1 _ rfl
    obtain ⟨x2, e2, r2⟩ := h.field s_state o_state (c_state.trans n_state.symm) f_state 2 _ rfl
    obtain ⟨x3, e3, r3⟩ := h.field s_state o_state (c_state.trans n_state.symm) f_state 3 _ rfl
    obtain ⟨x4, e4, r4⟩ := h.field s_state o_state (c_state.trans n_state.symm) f_state 4 _ rfl
    obtain ⟨x5, e5, r5⟩ := h.field s_state o_state (c_state.trans n_state.symm) f_state 5 _ rfl
    obtain ⟨x6, e6, r6⟩ := h.field s_state o_state (c_state.trans n_state.symm) f_state 6 _ rfl
    obtain rfl := Option.some.inj e0
    obtain rfl := Option.some.inj e1
    obtain rfl := Option.some.inj e2
    obtain rfl := Option.some.inj e3
    obtain rfl := Option.some.inj e4
    obtain rfl := Option.some.inj e5
    obtain rfl := Option.some.inj e6
    obtain ⟨_, l0, q0, hs0⟩ := Rt.rows r0
    obtain ⟨_, l1, q1, hs1⟩ := Rt.orders r1
    obtain ⟨_, l2, q2, hs2⟩ := Rt.holds r2
    obtain ⟨_, l3, q3, hs3⟩ := Rt.moves r3
    obtain ⟨_, l4, q4, hs4⟩ := Rt.ints r4
    obtain ⟨_, l5, q5, hs5⟩ := Rt.ints r5
    obtain ⟨_, l6, q6, hs6⟩ := Rt.ints r6
    obtain rfl := (List.cons.inj q0).1
    obtain rfl := (List.cons.inj q1).1
    obtain rfl := (List.cons.inj q2).1
    obtain rfl := (List.cons.inj q3).1
    obtain rfl := (List.cons.inj q4).1
    obtain rfl := (List.cons.inj q5).1
    obtain rfl := (List.cons.inj q6).1
    exact ⟨⟨l0, l1, l2, l3, l4, l5, l6⟩, _, _, _, _, _, _, _, rfl, hs0, hs1, hs2, hs3, hs4, hs5, hs6⟩
set_option maxRecDepth 100000 in
theorem state_of {b0 : Nat} {r : Reach} {v : Value} (hv : Value.okWide Tryz.prog w r b0 31 v) (h : Rt en w base sp hd 31 v.cells.toList) : ∃ s, StateV w w.heap.size v s := by
  obtain ⟨cs, rfl, hsz⟩ := okWide_struct s_state hv
  obtain ⟨s, hs⟩ := Rt.state (by simpa [Value.cells] using hsz.trans c_state) h
  exact ⟨s, by simpa [Value.cells] using hs⟩
end
end Wh
