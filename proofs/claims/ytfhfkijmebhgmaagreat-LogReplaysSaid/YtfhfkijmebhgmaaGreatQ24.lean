/- Texts of the claim, joined: WalkS, WalkT, AllocA. -/
import Derived.RangeFuncNested
import Derived.RangeFuncBox
import Derived.RangeFuncLeaves
import Derived.RangeFuncCalls
import Derived.Shelf.Abstract
import Derived.OwnWalkIn
import Derived.TacticsInMore
import Derived.LoopNIn
import Derived.LoopIn
import Derived.Maps.AppendAt
import Derived.Test.YtfhfkijmebhgmaaGreatQ04
import Derived.Test.YtfhfkijmebhgmaaGreatQ07
import Derived.Test.YtfhfkijmebhgmaaGreatQ14
import Derived.Test.YtfhfkijmebhgmaaGreatQ23
import Derived.Test.YtfhfkijmebhgmaaGreatQ12
namespace Wh
open Go Go.RowKit Go.Shelf Go.Proofs
attribute [local go_sem] run_indexAt_letter
attribute [local go_sem] Oper.semAt_some

/-- What a round of the loop's user keeps: what lay below n₀, and the one box. -/
def KpB (n₀ Bf : Nat) (W W' : World) : Prop := Below n₀ W W' ∧ W'.cell? ⟨Bf, 0, none⟩ = W.cell? ⟨Bf, 0, none⟩
set_option maxRecDepth 100000 in
set_option maxHeartbeats 2000000 in
theorem bins1_in (F : Fence) (n : Nat) (h7 : F.fn 156) (hro : F.round = none) (hn : 1 ≤ n) (l Bp Bf n₀ : Nat) (p : Plan) (f : Bool) (Ab As : Option Addr) (cb cs : Nat) (hlb : p.bins.length ≤ 6) (J Jx : List Nat → World → Prop)
    (hY : ∀ (pre : List Nat) (x : Nat) W, J pre W → pre.length < p.bins.length → YieldAt F (n - 1) Tryz.prog l #[.int .i64 ((x : Nat) : Int)] W fun e W' =>
      (e = .returned (.bool true) ∧ J (pre ++ [x]) W' ∧ KpB n₀ Bf W W') ∨ (e = .returned (.bool false) ∧ Jx (pre ++ [x]) W'))
    (W : World) (hn0 : n₀ ≤ W.heap.size) (hJ : AbidesFrom W.heap.size J) (hBf : Bf < W.heap.size) (hp0 : W.cell? ⟨Bp, 0, none⟩ = some (.slice Ab p.bins.length cb)) (_ : W.cell? ⟨Bp, 1, none⟩ = some (.slice As p.sizes.length cs))
    (hf : W.cell? ⟨Bf, 0, none⟩ = some (.bool f)) (hA : At W n₀ Ab (p.bins.flatMap cBin)) (h0 : J [] W) :
    CallsIn F n Tryz.prog 156 #[.func (.yield l) #[] #[], .pointer (some ⟨Bp, 0, none⟩), .pointer (some ⟨Bf, 0, none⟩)] W fun e W' => (∃ v, e = .returned v) ∧
      ((∃ ys, ys = kinds p f ∧ J ys W') ∨ (∃ pre, (∃ k, k ≤ p.bins.length ∧ pre = kindsTo p f k) ∧ Jx pre W')) := by
  refine callsIn_of_wp Tryz.func156 rfl h7 ?_ hro
  simp only [Tryz.ntmps156, List.size_toArray, List.length_cons, List.length_nil, Nat.reduceAdd, Nat.reduceSub, Array.replicate_succ, Array.replicate_zero, List.push_toArray, List.append_toArray, List.nil_append, List.cons_append]
  gi_wp2
  gi_loopw [9] (fun i wr => ∃ k : Nat, k ≤ p.bins.length ∧ i = .int .i64 k ∧ J (kindsTo p f k) wr ∧ KpB n₀ Bf W wr)
    (fun i _ => p.bins.length - (intOf i).toNat)
  case atStart => exact ⟨0, Nat.zero_le _, rfl, h0, Below.refl _ _, rfl⟩
  case round =>
    obtain ⟨k, hk, rfl, hJs, hnx, hnf⟩ := hrel
    by_cases hlt : k < p.bins.length
    · obtain ⟨hok, hAb, b0, b1, b2, b3⟩ := (hA.up hnx (Nat.le_refl _)).bin hlt
      have g0 := hnf.trans hf
      have hBw : Bf < wr.heap.size := by have := hnx.size; omega
      have hJa := hJ _ _ _ none hJs (World.grownBy_alloc wr (.cells #[.bool (binAt p.bins k).front, .int .i64 (binAt p.bins k).room, .int .i64 (binAt p.bins k).low, .int .i64 (binAt p.bins k).high] 125) none) (fun r h => by cases h)
      have hBa : Below n₀ wr (wr.alloc (.cells #[.bool (binAt p.bins k).front, .int .i64 (binAt p.bins k).room, .int .i64 (binAt p.bins k).low, .int .i64 (binAt p.bins k).high] 125)) := (Below.refl _ _).alloc (by have := hnx.size; omega) _
      have hca : (wr.alloc (.cells #[.bool (binAt p.bins k).front, .int .i64 (binAt p.bins k).room, .int .i64 (binAt p.bins k).low, .int .i64 (binAt p.bins k).high] 125)).cell? ⟨Bf, 0, none⟩ = wr.cell? ⟨Bf, 0, none⟩ :=
        ((Below.refl wr.heap.size wr).alloc (Nat.le_refl _) _).cell (p := ⟨Bf, 0, none⟩) hBw
      cases hfr : ((binAt p.bins k).front == f)
      · have hno := kindsTo_no (p := p) (f := f) (k := k) (by simpa using hfr)
        gi_wp2
        refine ⟨fun _ h => (by cases h), ?_⟩
        gi_wp2
        go_roundw
        case rel => exact ⟨k + 1, by omega, by simp, by rw [hno]; exact hJa, hnx.trans hBa, hca.trans hnf⟩
        case measure => simp [intOf]; omega
      · have hyes := kindsTo_yes (p := p) (f := f) (k := k) (by simpa using hfr)
        obtain ⟨fn, tmps, assign, body, hy, hR⟩ := hY _ k _ hJa (by have := kindsTo_length p f k; omega)
        gi_wp2
        refine hR.mono ?_
        rintro e W3 (⟨rfl, hJ3, hk3⟩ | ⟨rfl, hJx3⟩)
        · gi_wp2
          go_roundw
          case rel => exact ⟨k + 1, by omega, by simp, by rw [hyes]; exact hJ3, (hnx.trans hBa).trans hk3.1, (hk3.2.trans hca).trans hnf⟩
          case measure => simp [intOf]; omega
        · gi_wp2
          refine bodyPost_ret (results_none rfl _ _ _) rfl ?_
          exact ⟨⟨_, rfl⟩, .inr ⟨_, ⟨k + 1, by omega, hyes.symm⟩, hJx3⟩⟩
    · obtain rfl : k = p.bins.length := by omega
      gi_wp2
      go_end0
      exact ⟨⟨_, rfl⟩, .inl ⟨_, rfl, hJs⟩⟩

theorem bins_in (F : Fence) (n : Nat) (h : F.fn 103) (hro : F.round = none) (v0 v1 : Value) (f : Bool) (w : World) :
    CallsIn F n Tryz.prog 103 #[.agg #[v0, v1], .bool f] w fun e w' => e = .returned (.func (.func 156) #[] #[.pointer (some ⟨w.heap.size, 0, none⟩), .pointer (some ⟨w.heap.size + 1, 0, none⟩)]) ∧
      w' = (w.alloc (.cells #[v0, v1] 25)).alloc (.cells #[.bool f] 4) := by
  refine callsIn_of_wp Tryz.func103 rfl h ?_ hro
  simp only [Tryz.ntmps103, List.size_toArray, List.length_cons, List.length_nil, Nat.reduceAdd, Nat.reduceSub, Array.replicate_succ, Array.replicate_zero, List.push_toArray, List.append_toArray, List.nil_append, List.cons_append]
  gi_wp2
  go_ret
  exact ⟨rfl, rfl⟩

theorem bins_stops (F : Fence) (n : Nat) (h7 : F.fn 156) (hro : F.round = none) (hn : 1 ≤ n) (Bp Bf n₀ : Nat) (p : Plan) (f : Bool) (Ab As : Option Addr) (cb cs : Nat) (hlb : p.bins.length ≤ 6) (w : World) (hn0 : n₀ ≤ w.heap.size) (hBp : Bp < w.heap.size) (hBf : Bf < w.heap.size)
    (hp0 : w.cell? ⟨Bp, 0, none⟩ = some (.slice Ab p.bins.length cb)) (hp1 : w.cell? ⟨Bp, 1, none⟩ = some (.slice As p.sizes.length cs)) (hf : w.cell? ⟨Bf, 0, none⟩ = some (.bool f)) (hA : At w n₀ Ab (p.bins.flatMap cBin)) :
    SeqStopsK F n Tryz.prog 156 #[.pointer (some ⟨Bp, 0, none⟩), .pointer (some ⟨Bf, 0, none⟩)] (fun x : Nat => #[Value.int .i64 ((x : Nat) : Int)]) (KpB n₀ Bf) (fun ys => ys = kinds p f) (fun pre => ∃ k, k ≤ p.bins.length ∧ pre = kindsTo p f k) p.bins.length w := fun l J Jx W hW hJ _ hY h0 =>
  bins1_in F n h7 hro hn l Bp Bf n₀ p f Ab As cb cs hlb J Jx hY W (Nat.le_trans hn0 hW.size) hJ (Nat.lt_of_lt_of_le hBf hW.size) ((hW.cell (p := ⟨Bp, 0, none⟩) hBp).trans hp0) ((hW.cell (p := ⟨Bp, 1, none⟩) hBp).trans hp1)
    ((hW.cell (p := ⟨Bf, 0, none⟩) hBf).trans hf) (hA.up (hW.mono hn0) (Nat.le_refl _)) h0
end Wh
namespace Wh
open Go Go.RowKit Go.Shelf Go.Proofs
attribute [local go_sem] run_indexAt_letter
attribute [local go_sem] Oper.semAt_some

/-- These blocks lie as they are given. -/
def HeldDs (L : List (Nat × Obj)) (W : World) : Prop := ∀ x ∈ L, W.heap[x.1]? = some x.2
theorem HeldDs.lt {L : List (Nat × Obj)} {W : World} (h : HeldDs L W) : ∀ x ∈ L, x.1 < W.heap.size := fun x hx => (Array.getElem?_eq_some_iff.1 (h x hx)).1
theorem HeldDs.grown {L : List (Nat × Obj)} {W W' : World} {row : Option Nat} (h : HeldDs L W) (hg : W.grownBy W' row) (hne : ∀ x ∈ L, some x.1 ≠ row) : HeldDs L W' := fun x hx => (hg.block x.1 (h.lt x hx) (hne x hx)).trans (h x hx)
theorem HeldDs.alloc {L : List (Nat × Obj)} {W : World} (h : HeldDs L W) (o : Obj) : HeldDs L (W.alloc o) := h.grown (World.grownBy_alloc W o none) (fun _ _ e => by cases e)
theorem HeldDs.setCell {L : List (Nat × Obj)} {W : World} (h : HeldDs L W) (B : Nat) (u : Value) (hne : ∀ x ∈ L, x.1 ≠ B) : HeldDs L (W.setCell ⟨B, 0, none⟩ u) := h.grown (grownBy_setCell' W B u) (fun x hx e => hne x hx (by cases e; rfl))
theorem HeldDs.not_row {L : List (Nat × Obj)} {W : World} {e : TypeId} (h : HeldDs L W) (ht : ∀ x ∈ L, ∀ cs sp, x.2 ≠ .cells cs e sp) {base size k : Nat} {v : Value} {xs : List Value} (hr : W.ownsRow base e size v k xs) : ∀ x ∈ L, some x.1 ≠ v.ownBlock := by
  intro x hx
  rcases hr.2 with ⟨rfl, _⟩ | ⟨g, cap, cur, rfl, _, hgb, _⟩
  · simp [Value.ownBlock]
  · intro e'
    obtain ⟨i, o⟩ := x
    obtain rfl : i = g := by simpa [Value.ownBlock] using e'
    have h1 := h _ hx
    simp only at h1
    rw [hgb] at h1
    exact ht _ hx _ _ (Option.some.inj h1).symm
theorem HeldDs.from_ {β : Type} {B : Nat} {L : List (Nat × Obj)} (hB : ∀ x ∈ L, x.1 < B) : OwnFrom B (fun (_ : β) W => HeldDs L W) := fun _ _ _ _ hs hg hr => hs.grown hg (fun x hx e => by
  have := (hr x.1 e.symm).1
  have := hB x hx
  omega)
theorem cell_of_heap {W : World} {B j : Nat} {vs : Array Value} {t : TypeId} {v : Value} (h : W.heap[B]? = some (.cells vs t (0, 0))) (hj : vs[j]? = some v) : W.cell? ⟨B, j, none⟩ = some v := by
  simp [World.cell?, h, hj]
theorem heap_alloc_old {W : World} {o : Obj} {B : Nat} (h : B < W.heap.size) : (W.alloc o).heap[B]? = W.heap[B]? := Below.heap_alloc W o B h
theorem heap_alloc_at {W : World} {o : Obj} {B : Nat} (h : B = W.heap.size) : (W.alloc o).heap[B]? = some o := by
  subst h
  exact World.alloc_heap_new W o
theorem cell_lt' {w : World} {a : Addr} {v : Value} (h : w.cell? a = some v) : a.block < w.heap.size := by
  by_cases hlt : a.block < w.heap.size
  · exact hlt
  · unfold World.cell? at h
    rw [Array.getElem?_eq_none (by omega)] at h
    simp at h

def outI (n₀ Bo : Nat) (pre0 : List Nat) (L : List (Nat × Obj)) (W0 : World) (pre : List Nat) (W : World) : Prop :=
  ((∃ u, Boxed W Bo 23 u ∧ Own cInt 1 3 W n₀ u (nats (pre0 ++ pre)) ∧ True) ∧ HeldDs L W) ∧ Below n₀ W0 W

set_option maxRecDepth 100000 in
set_option maxHeartbeats 4000000 in
theorem wayLoop (Q : Exit → Act → World → Prop) (ds : List Deferred) (W0 : World) (Bo Bp Bf n₀ : Nat) (u : Value) (pre0 : List Nat) (L : List (Nat × Obj)) (p : Plan) (f : Bool) (Ab As : Option Addr) (cb cs : Nat) (hlb : p.bins.length ≤ 6) (hl0 : pre0.length ≤ 6)
    (t0 t1 t2 t3 t4 t6 t7 t8 t9 t10 t11 t12 t13 t14 t15 t16 t17 t18 t19 t20 t21 t23 t24 t25 t26 t27 t28 t29 : Value) (hn0 : n₀ ≤ W0.heap.size) (hBo : n₀ ≤ Bo)
    (hp0 : W0.cell? ⟨Bp, 0, none⟩ = some (.slice Ab p.bins.length cb)) (hp1 : W0.cell? ⟨Bp, 1, none⟩ = some (.slice As p.sizes.length cs)) (hA : At W0 n₀ Ab (p.bins.flatMap cBin))
    (hbox : Boxed W0 Bo 23 u) (hown : Own cInt 1 3 W0 n₀ u (nats pre0)) (hL : HeldDs L W0) (hLf : (Bf, Obj.cells #[.bool f] 4 (0, 0)) ∈ L) (hLt : ∀ x ∈ L, ∀ cs sp, x.2 ≠ .cells cs 3 sp) (hLo : ∀ x ∈ L, x.1 ≠ Bo)
    (hdone : ∀ (D : Nat) (W : World), W0.heap.size ≤ D → outI n₀ Bo pre0 L W0 (kinds p f) W → W.heap[D]? = some (.deferred (some [])) → Q .normal { tmps := #[t0, t1, t2, t3, t4, .pointer (some ⟨Bo, 0, none⟩), t6, t7, t8, t9, t10, t11, t12, t13, t14, t15, t16, t17, t18, t19, t20, t21, .func (.func 156) #[] #[.pointer (some ⟨Bp, 0, none⟩), .pointer (some ⟨Bf, 0, none⟩)], t23, t24, t25, t26, t27, t28, t29], defers := { target := .collected D, args := #[] } :: ds } W) :
    (Code.rangeFunc (Operand.tmp 22) #[23] (Code.region 9 #[{ dst := some 8, op := Op.assign (Operand.tmp 23), type := 3, pos := "plan.go:45", after := #[], guard := none }] false)
      (Code.block 3 (Code.region 10 #[
        { dst := some 24, op := Op.load 23 (Operand.tmp 5), type := 23, pos := "plan.go:46", after := #[], guard := none },
        { dst := some 25, op := Op.move (Operand.tmp 8), type := 3, pos := "plan.go:46", after := #[], guard := none },
        { dst := some 26, op := Op.buildSlice 23 1 #[(0, Operand.tmp 25)], type := 23, pos := "plan.go:46", after := #[{ on := 1, ground := Ground.data }], guard := none },
        { dst := some 27, op := Op.call { callee := Callee.builtin Builtin.append, args := #[Operand.tmp 24, Operand.tmp 26], argTypes := #[23, 23] }, type := 23, pos := "plan.go:46", after := #[{ on := 0, ground := Ground.data }, { on := 2, ground := Ground.data }], guard := none },
        { dst := none, op := Op.store 23 (Operand.tmp 5) (Operand.tmp 27), type := 0, pos := "plan.go:46", after := #[{ on := 3, ground := Ground.data }, { on := 3, ground := Ground.chain }, { on := 0, ground := Ground.phase }, { on := 1, ground := Ground.phase }, { on := 2, ground := Ground.phase }, { on := 3, ground := Ground.phase }], guard := none }] false))).wpIn Fence.wide 5 Tryz.prog Q
      { tmps := #[t0, t1, t2, t3, t4, .pointer (some ⟨Bo, 0, none⟩), t6, t7, t8, t9, t10, t11, t12, t13, t14, t15, t16, t17, t18, t19, t20, t21, .func (.func 156) #[] #[.pointer (some ⟨Bp, 0, none⟩), .pointer (some ⟨Bf, 0, none⟩)], t23, t24, t25, t26, t27, t28, t29], defers := ds } W0 := by
  have bF : W0.cell? ⟨Bf, 0, none⟩ = some (.bool f) := Boxed.cell (hL _ hLf)
  have hBf : Bf < W0.heap.size := hL.lt _ hLf
  have hBpl : Bp < W0.heap.size := cell_lt' hp0
  refine wpIn_rangeFunc_ownG rfl (by omega) (gf := 156) (lb := #[.pointer (some ⟨Bp, 0, none⟩), .pointer (some ⟨Bf, 0, none⟩)]) rfl trivial (enters_of Tryz.func156 (by kernel_rfl) rfl)
    (bins_stops Fence.wide (5 - 1) trivial rfl (by omega) Bp Bf n₀ p f Ab As cb cs hlb W0 hn0 hBpl hBf hp0 hp1 bF hA)
    (fun h k => ⟨h.1.trans k.1, k.2.trans h.2⟩)
    (fun W l o o' hl ho hc hw => ⟨belowK_b hn0 W l o o' hl ho hc hw, ((Below.refl W0.heap.size W).grown (grownBy_putObj' W l o') (by have := (Array.getElem?_eq_some_iff.1 ho).1; omega) (fun k e => by cases e; exact hl)).cell (p := ⟨Bf, 0, none⟩) hBf⟩)
    (Below.refl _ _) (fun _ => rfl)
    (outI n₀ Bo pre0 L W0)
    (fun _ _ _ => False)
    (OwnFrom.and (OwnFrom.and (Own.from (holdsRow_own n₀ Bo 23 3 1 (fun pre => (nats (pre0 ++ pre)).length) (fun pre => (nats (pre0 ++ pre)).flatMap cInt) (fun _ _ => True)) _) (HeldDs.from_ hL.lt)) (ownFrom_below hn0 hn0))
    (fun _ _ _ _ _ hs _ _ => hs)
    ⟨⟨⟨u, hbox, by simpa using hown, trivial⟩, hL⟩, Below.refl _ _⟩
    (fun x => { tmps := #[t0, t1, t2, t3, t4, .pointer (some ⟨Bo, 0, none⟩), t6, t7, .int .i64 ((x : Nat) : Int), t9, t10, t11, t12, t13, t14, t15, t16, t17, t18, t19, t20, t21, .func (.func 156) #[] #[.pointer (some ⟨Bp, 0, none⟩), .pointer (some ⟨Bf, 0, none⟩)], .int .i64 ((x : Nat) : Int), t24, t25, t26, t27, t28, t29], defers := [] }) ?assign ?body ?done ?stop
  case assign =>
    intro l x W K hK
    gi_wp2
    exact hK
  case body =>
    rintro l pre x W ⟨⟨⟨v, hv, hrow, _⟩, hH⟩, hB⟩ hlt
    have hc := hv.cell
    have hlen : (nats (pre0 ++ pre)).length ≤ 12 := by rw [nats_length, List.length_append]; omega
    obtain ⟨i0, hi, hz0, hz1, hz2⟩ := elem_of (P := Tryz.prog) (e := 3) (z := .int .i64 0) (size := 1) (bytes := 8) (by kernel_rfl)
    have u23 : Tryz.prog.underlying 23 = some (.slice 3) := by kernel_rfl
    gi_wp2_with (gi_at_builtin; refine wpListIn_append_own _ rfl _ _ 23 rfl n₀ 3 i0 (.int .i64 0) 1 8 u23 hi hz0 hz1 hz2 rfl (by decide) _ _ _ rfl (World.ownsRow.alloc hrow _) ⟨W.heap.size, 0, none⟩ 1 1 [.int .i64 ((x : Nat) : Int)] rfl rfl (cell_one_new _ _ _) (by simp [Value.oneCell']) (by unfold maxLen; omega) (by omega) (by have := hB.size; simp; omega) ?_; intro v' w1 hown' hgrow _; obtain ⟨g', cap', rfl⟩ := ownsRow_succ hown'; obtain ⟨hv1, hv2, hr2, hk2, hb2⟩ := hv.appended (by decide) hrow (Nat.le_trans hn0 hB.size) hBo hown' hgrow; have hc1 := hv1.cell; have hf1 := hv1.frozen)
    have hH' := ((hH.alloc _).grown hgrow (hH.not_row hLt hrow)).setCell Bo (.slice (some ⟨g', 0, none⟩) ((nats (pre0 ++ pre)).length + 1) cap') hLo
    refine ⟨hk2.from _, ⟨hb2, (Boxed.cell (hH' _ hLf)).trans (Boxed.cell (hH _ hLf)).symm⟩, ⟨⟨_, hv2, ?_, trivial⟩, hH'⟩, hB.trans hb2⟩
    unfold Own
    have e1 : nats (pre0 ++ (pre ++ [x])) = nats (pre0 ++ pre) ++ [(x : Int)] := by simp [nats]
    have e2 : (nats (pre0 ++ pre) ++ [(x : Int)]).length = (nats (pre0 ++ pre)).length + 1 := by simp
    have e3 : (nats (pre0 ++ pre) ++ [(x : Int)]).flatMap cInt = (nats (pre0 ++ pre)).flatMap cInt ++ [.int .i64 ((x : Nat) : Int)] := by rw [List.flatMap_append]; simp [cInt]
    rw [e1, e2, e3]
    exact hr2
  case done =>
    rintro D ys W hD rfl hI hK
    exact hdone D W hD hI hK
  case stop =>
    rintro D c pre W _ _ h _
    exact h.elim

set_option maxRecDepth 100000 in
set_option maxHeartbeats 4000000 in
theorem planWayOwn (w : World) (v : Value) (p : Plan) (hp : PlanV w w.heap.size v p) :
    Calls Tryz.prog 123 #[v] w fun e w' => ∃ u, e = .returned (.tuple #[u, .int .i64 (checkPlan p)]) ∧ Own cInt 1 3 w' w.heap.size u (if checkPlan p = 0 then nats (way p) else []) ∧ Below w.heap.size w w' := by
  have hP := hp
  obtain ⟨_, _, rfl, ⟨Ab, cb, rfl, hlb, hb⟩, ⟨As, cs, rfl, hls, hs⟩⟩ := hp
  have hb0 : Below w.heap.size w (w.alloc (.cells #[.slice Ab p.bins.length cb, .slice As p.sizes.length cs] 25)) := (Below.refl _ _).alloc (Nat.le_refl _) _
  refine (callsIn_wide (n := 5)).1 ?_
  refine callsIn_of_wp_marks Tryz.func123 rfl trivial ?_ rfl
  simp only [Tryz.ntmps123, List.size_toArray, List.length_cons, List.length_nil, Nat.reduceAdd, Nat.reduceSub, Array.replicate_succ, Array.replicate_zero, List.push_toArray, List.append_toArray, List.nil_append, List.cons_append]
  gi_wp2_with fail
  refine ⟨trivial, (callsIn_wide.2 (planCheck _ _ p (hP.grow hb0))).mono ?_⟩
  rintro e W1 ⟨rfl, hb1⟩
  have hbw := hb0.trans (hb1.mono hb0.size)
  obtain ⟨hc1, hf1⟩ := bcell hb1
  have hlt1 : w.heap.size < W1.heap.size := by have := hb1.size; simp at this; omega
  by_cases hz : checkPlan p = 0
  · gi_wp2
    refine wpIn_loop_rounds 3 ?_
    rw [roundsIn_succ]
    gi_wp2_with fail
    refine ⟨trivial, (bins_in Fence.wide 4 trivial rfl _ _ _ _).mono ?_⟩
    rintro e W2 ⟨rfl, rfl⟩
    simp only [World.size_alloc]
    gi_wp2_with fail
    have q0 := Boxed.new W1 23 (.slice none 0 0)
    have q1 := World.alloc_heap_new (W1.alloc (.cells #[.slice none 0 0] 23)) (.cells #[.bool true, .bool false] 4)
    refine wayLoop _ _ _ W1.heap.size (W1.heap.size + 1 + 1) (W1.heap.size + 1 + 1 + 1) W1.heap.size (.slice none 0 0) [] [(W1.heap.size + 1 + 1 + 1, .cells #[.bool true] 4 (0, 0)), (W1.heap.size + 1, .cells #[.bool true, .bool false] 4 (0, 0))] p true Ab As cb cs (right_counts hz).2.1 (by simp) _ _ _ _ _ _ _ _ _ _ _ _ _ _ _ _ _ _ _ _ _ _ _ _ _ _ _ _ (by simp; omega) (Nat.le_refl _) ?a0 ?a1 ?a2 ?a3 ?a4 ?a5 ?a6 ?a7 ?a8 ?a9
    case a0 => exact cell_of_heap ((heap_alloc_old (by simp)).trans (heap_alloc_at (by simp))) rfl
    case a1 => exact cell_of_heap ((heap_alloc_old (by simp)).trans (heap_alloc_at (by simp))) rfl
    case a2 => exact (hb.up hb0 hb0.size).up hb1 hb1.size |>.up (((((Below.refl _ _).alloc (Nat.le_refl _) _).alloc (by simp) _).alloc (by simp; omega) _).alloc (by simp; omega) _) (Nat.le_refl _)
    case a3 => exact ((q0.alloc _).alloc _).alloc _
    case a4 => exact Own.nil
    case a5 =>
      intro x hx
      simp at hx
      rcases hx with rfl | rfl
      · exact heap_alloc_at (by simp)
      · exact (heap_alloc_old (by simp)).trans ((heap_alloc_old (by simp)).trans (heap_alloc_at (by simp)))
    case a6 => simp
    case a7 =>
      intro x hx cs sp e
      simp at hx
      rcases hx with rfl | rfl <;> simp at e
    case a8 =>
      intro x hx
      simp at hx
      rcases hx with rfl | rfl
      · show W1.heap.size + 1 + 1 + 1 ≠ W1.heap.size; omega
      · show W1.heap.size + 1 ≠ W1.heap.size; omega
    case a9 =>
      intro D W hD hI hK
      obtain ⟨⟨⟨u, hu, hown, _⟩, hH⟩, hB⟩ := hI
      have hB1 : Below W1.heap.size W1 W := Below.trans (((((Below.refl _ _).alloc (Nat.le_refl _) _).alloc (by simp) _).alloc (by simp; omega) _).alloc (by simp; omega) _) hB
      have z1 : W.cell? ⟨w.heap.size, 0, none⟩ = some (.slice Ab p.bins.length cb) := (hB1.cell (p := ⟨w.heap.size, 0, none⟩) hlt1).trans ((hc1 w.heap.size 0 (by simp)).trans (by simp))
      have z2 : W.cell? ⟨w.heap.size, 1, none⟩ = some (.slice As p.sizes.length cs) := (hB1.cell (p := ⟨w.heap.size, 1, none⟩) hlt1).trans ((hc1 w.heap.size 1 (by simp)).trans (by simp))
      have g1 : W.cell? ⟨W1.heap.size + 1, 1, none⟩ = some (.bool false) := by
        have := hH (W1.heap.size + 1, .cells #[.bool true, .bool false] 4 (0, 0)) (by simp)
        simp only at this
        simp [World.cell?, this]
      simp at hD
      gi_wp2
      rw [roundsIn_succ]
      gi_wp2_with fail
      refine ⟨trivial, (bins_in Fence.wide 4 trivial rfl _ _ _ _).mono ?_⟩
      rintro e W2 ⟨rfl, rfl⟩
      gi_wp2_with fail
      have hWs : W1.heap.size ≤ W.heap.size := hB1.size
      have hDl := (Array.getElem?_eq_some_iff.1 hK).1
      have hul := hu.lt
      refine wayLoop _ _ _ W1.heap.size W.heap.size (W.heap.size + 1) W1.heap.size u (kinds p true) [(W.heap.size + 1, .cells #[.bool false] 4 (0, 0)), (D, .deferred (some []))] p false Ab As cb cs (right_counts hz).2.1 (Nat.le_trans (kindsTo_length p true p.bins.length) (right_counts hz).2.1) _ _ _ _ _ _ _ _ _ _ _ _ _ _ _ _ _ _ _ _ _ _ _ _ _ _ _ _ (by simp; omega) (Nat.le_refl _) ?b0 ?b1 ?b2 ?b3 ?b4 ?b5 ?b6 ?b7 ?b8 ?b9
      case b0 => exact cell_of_heap ((heap_alloc_old (by simp)).trans (heap_alloc_at rfl)) rfl
      case b1 => exact cell_of_heap ((heap_alloc_old (by simp)).trans (heap_alloc_at rfl)) rfl
      case b2 => exact ((hb.up hb0 hb0.size).up hb1 hb1.size |>.up hB1 (Nat.le_refl _)).up (((Below.refl _ _).alloc hWs _).alloc (by simp; omega) _) (Nat.le_refl _)
      case b3 => exact (hu.alloc _).alloc _
      case b4 => exact (by simpa using hown : Own cInt 1 3 W W1.heap.size u (nats (kinds p true))) |>.alloc _ |>.alloc _
      case b5 =>
        intro x hx
        simp at hx
        rcases hx with rfl | rfl
        · exact heap_alloc_at (by simp)
        · exact (heap_alloc_old (by simp; omega)).trans ((heap_alloc_old hDl).trans hK)
      case b6 => simp
      case b7 =>
        intro x hx cs sp e
        simp at hx
        rcases hx with rfl | rfl <;> simp at e
      case b8 =>
        intro x hx
        simp at hx
        rcases hx with rfl | rfl
        · show W.heap.size + 1 ≠ W1.heap.size; omega
        · show D ≠ W1.heap.size; omega
      case b9 =>
        intro D2 W3 hD2 hI2 hK2
        obtain ⟨⟨⟨u2, hu2, hown2, _⟩, hH2⟩, hB2⟩ := hI2
        have hKD := hH2 (D, .deferred (some [])) (by simp)
        have hc2 := hu2.cell
        simp at hD2
        gi_wp2
        rw [roundsIn_succ]
        gi_wp2
        have hne : D ≠ D2 := by omega
        have hKD' : (W3.putObj D2 (.deferred none)).heap[D]? = some (.deferred (some [])) := (World.putObj_heap_other hne).trans hKD
        have hB3 : Below W1.heap.size W1 W3 := hB1.trans ((((Below.refl _ _).alloc hWs _).alloc (by simp; omega) _).trans hB2)
        have hB4 : Below W1.heap.size W1 (W3.putObj D2 (.deferred none)) := hB3.trans (belowK_b (Nat.le_refl _) W3 D2 _ _ (by omega) hK2 rfl rfl)
        have hB5 : Below W1.heap.size W1 ((W3.putObj D2 (.deferred none)).putObj D (.deferred none)) := hB4.trans (belowK_b (Nat.le_refl _) _ D _ _ (by omega) hKD' rfl rfl)
        have hown5 : Own cInt 1 3 ((W3.putObj D2 (.deferred none)).putObj D (.deferred none)) W1.heap.size u2 (nats (way p)) := ownsRow_putObj (ownsRow_putObj hown2 _ hK2 rfl) _ hKD' rfl
        refine ⟨by simp, .inl ⟨_, _, rfl, run_takeDeferred hK2, ?_⟩⟩
        refine ⟨by simp, .inl ⟨_, _, rfl, run_takeDeferred hKD', ?_⟩⟩
        refine ⟨_, by simp [results, Tryz.results123, go_sem], u2, rfl, hown5.from_ hbw.size, hbw.trans (hB5.mono hbw.size)⟩
  · have hzb : (checkPlan p != 0) = true := by simpa using hz
    have hzf : (checkPlan p == 0) = false := by simpa using hz
    gi_wp2
    refine ⟨_, by simp [results, Tryz.results123, go_sem], _, rfl, Own.nil, hbw⟩
end Wh
namespace Wh
open Go Go.RowKit Go.Shelf Go.Proofs
attribute [local go_sem] run_indexAt_letter

section
variable {p : Plan} {s : State} {o k b : Nat} {m : Int}
theorem add_fits (h : Right p s) (f : Fits p s o k b m) : add s.holds ⟨o, k, b, m⟩ = ((hold1 s o k b m).holds, 0) := by
  have h1 := h.sane.holds
  have hkey := key_of h.sane f.ho f.hk f.hb
  obtain ⟨k1, k2⟩ := fits_kept h f
  have hf : holdFine ⟨o, k, b, m⟩ = true := fine_iff.2 ⟨hkey, by have := f.m1; simp only; omega⟩
  unfold add
  rw [h1, hf, if_neg (by simp), if_neg (by simp)]
  simp only
  rw [if_neg (by omega)]
  rfl
end
theorem nats_at {l : List Nat} {j : Nat} (hj : j < l.length) : intAt (nats l) j = (l[j] : Int) := by
  unfold intAt nats
  simp [hj]
theorem drop_at {l : List Nat} {j : Nat} (hj : j < l.length) : l.drop j = l[j] :: l.drop (j + 1) := List.drop_eq_getElem_cons hj

theorem OwnSt.lineCells {w : World} {base : Nat} {V : SV} {s : State} (h : OwnSt w base V s) {o k : Nat} (ho : o < s.orders.length) (hk : k < (s.order o).lines.length) {gl n c : Nat} (hv : V.line o = .slice (some ⟨gl, 0, none⟩) n c) : gl < w.heap.size ∧
    w.cell? ⟨gl, k * 4, none⟩ = some (.int .i64 (s.line o k).good) ∧ w.cell? ⟨gl, k * 4 + 1, none⟩ = some (.int .i64 (s.line o k).want) ∧ w.cell? ⟨gl, k * 4 + 2, none⟩ = some (.int .i64 (s.line o k).got) ∧ w.cell? ⟨gl, k * 4 + 3, none⟩ = some (.int .i64 (s.line o k).back) := by
  obtain ⟨g', c', cur, e1, _, e3, f⟩ := h.lineAt ho hk
  rw [hv] at e1
  injection e1 with e1
  injection e1 with e1
  injection e1 with e1
  subst e1
  exact ⟨e3.lt, f⟩
/-- What holding in a state of one's own does. -/
def HoldPost (p : Plan) (s : State) (o k : Nat) (n but : Int) (w : World) (base b : Nat) (t : TypeId) (rst : List Value) (V : SV) (e : Ending) (w' : World) : Prop :=
  e = .returned (.int .i64 (takeS p s o k n but).2) ∧ ∃ V', V' = { V with holds := V'.holds } ∧ Bx w' base b t rst V' (takeS p s o k n but).1 ∧ Step (fun j => j = b ∨ (V.line o).ownBlock = some j) w w'

set_option maxHeartbeats 8000000 in
set_option maxRecDepth 100000 in
theorem alHold (w : World) (v : Value) (p : Plan) (s : State) (o k : Nat) (n but : Int) {base b : Nat} {t : TypeId} {rst : List Value} {V : SV} (hp : PlanV w w.heap.size v p) (hr : Right p s) (hm : May s o k n) (hB : Bx w base b t rst V s) (hbase : base ≤ w.heap.size) :
    Calls Tryz.prog 67 #[v, .pointer (some ⟨b, 0, none⟩), .int .i64 o, .int .i64 k, .int .i64 n, .int .i64 but] w (HoldPost p s o k n but w base b t rst V) := by
  obtain ⟨Ab, cb, As, cs, rfl, hP', hBn, hSz, hlb, hls⟩ := openPl hp
  go_enter Tryz.func67, Tryz.ntmps67
  go_wp2_with fail
  obtain ⟨W0, hW0, hb0, hsz0, hK⟩ := boxesPl w p Ab cb As cs
  rw [hW0]
  clear hW0
  have hz := hr.sane.plan
  obtain ⟨y0, y1, hbz1⟩ := hK.out W0 (Below.refl _ _)
  go_wp2_with fail
  refine (planWayOwn _ _ p (hP'.out _ hb0)).mono ?_
  rintro e W1 ⟨uw, rfl, hway, h1⟩
  rw [hz] at hway ⊢
  rw [if_pos rfl] at hway
  obtain ⟨Aw, cw, rfl⟩ := hway.isSlice
  rw [nats_length] at hway ⊢
  have hBlt := hB.lt
  have hb01 := hb0.trans (h1.mono hb0.size)
  have hB1 := Lib.hid (hB.below hb01)
  obtain ⟨gl, cl, curl, e1, hgl, hblk, f0, f1, f2, f3⟩ := hB1.out.own.lineAt hm.ho hm.hk
  have hll := ((hB.own.line o hm.ho).size gl (by rw [e1]; rfl)).2
  obtain ⟨go, co, curo, eo, hgo, hblko, z0, z1⟩ := hB1.out.own.orderAt hm.ho
  obtain ⟨c0, c1, c2, c3, c4, c5, c6⟩ := hB1.out.cells
  rw [eo] at c1
  rw [e1] at z1
  have hon : (o : Int) < (s.orders.length : Int) := by have := hm.ho; omega
  have hkn : (k : Int) < ((s.order o).lines.length : Int) := by have := hm.hk; omega
  have hm' := Lib.hid hm
  have hr' := Lib.hid hr
  have hway' := Lib.hid hway
  have hlw : (way p).length ≤ 6 := by rw [way_length]; exact hr.sane.counts.2.1
  clear hm hr hway hB hz y0 y1 hP' hBn hSz hK
  go_wp2_with fail
  clear c0 c1 c2 c3 c4 c5 c6 z0 z1 f0 f1 f2 f3 hon hkn eo hblko hblk
  have hl0 : W0.heap.size ≤ W1.heap.size := h1.size
  go_loopw [36, 4, 17, 18] (fun i n' _ _ wr => ∃ (j : Nat) (s' : State) (m : Int) (V' : SV), V' = { V with holds := V'.holds } ∧ j ≤ (way p).length ∧ i = .int .i64 j ∧ n' = .int .i64 m ∧ Right p s' ∧ May s' o k m ∧ takeGo o k but ((way p).drop j) s' m = takeS p s o k n but ∧
    Bx wr base b t rst V' s' ∧ Step (fun j => j = b ∨ (V.line o).ownBlock = some j) W1 wr) (fun i _ _ _ _ => (way p).length - (intOf i).toNat)
  case atStart => exact ⟨0, s, n, V, rfl, Nat.zero_le _, rfl, rfl, hr'.out, hm'.out, rfl, hB1.out, Step.refl _ _⟩
  case round =>
    clear hr' hm' hB1
    obtain ⟨j, s', m, V', hsb, hj, rfl, rfl, hr, hm, htg, hBx, hst⟩ := hrel
    have hr' := Lib.hid hr
    have hm' := Lib.hid hm
    have htg' := Lib.hid htg
    have hBx' := Lib.hid hBx
    have hst' := Lib.hid hst
    have hks := Lib.hid (show ∀ j, (j = b ∨ (V.line o).ownBlock = some j) → j < W0.heap.size from fun j h => by
      have := hb0.size
      rcases h with rfl | h
      · omega
      · rw [e1] at h
        change some gl = some j at h
        injection h with h
        omega)
    by_cases hlt : j < (way p).length
    · have hwb := way_bins p _ (List.getElem_mem hlt)
      have hwr := hway'.out.step hst (fun k hk hks' => absurd (hks.out k hks') (by have := (hway'.out.size k hk).1; omega))
      obtain ⟨gw, cw', curw, ew, hgw, hbw, zw⟩ := OwnSt.intAtOwn hwr (g := j) (by rw [nats_length]; exact hlt)
      rw [nats_at hlt] at zw
      obtain ⟨wb, hwbe⟩ : ∃ x, x = (way p)[j] := ⟨_, rfl⟩
      rw [← hwbe] at zw hwb
      have hwbe' := Lib.hid hwbe
      clear hwbe
      obtain rfl : Aw = some ⟨gw, 0, none⟩ := by injection ew
      clear ew
      obtain ⟨hgll, f0, f1, f2, f3⟩ := hBx.own.lineCells hm.ho hm.hk (show V'.line o = _ by rw [hsb]; exact e1)
      obtain ⟨c0, c1, c2, c3, c4, c5, c6⟩ := hBx.cells
      have q1 := fun o d os => cells_wld (w := wr) (b := b) hBx.lt o d os
      have q2 := fun o d os => cells_wld (w := wr) (b := gl) hgll o d os
      have hV2 := Lib.hid (fun d os => (hBx.own.view hr.sane).up (below_wld wr d os) (below_wld wr d os).size)
      have hgood := Lib.hid (hr.sane.line hm.ho hm.hk)
      have hjl : (j : Int) < ((way p).length : Int) := by omega
      have hr2 := Lib.hid hr.sane
      have hbb := Lib.hid (show 0 ≤ (wb : Int) ∧ (wb : Int) < p.bins.length by omega)
      have hsb' := Lib.hid hsb
      clear hr hm htg hBx hst hwr hbw hsb
      go_wp2_with fail
      refine wp_region_wld (by kernel_rfl) (by kernel_rfl) ?_
      repeat (go_big_quiet_step ((go_at_call 80; refine calls_wld (sLeft _ _ p s' wb _ (hV2.out _ _) hr2.out hbb.out hgood.out.1))))
      refine wpQuiet_nil ?_
      intro W6 hw'
      have hb6 := below_of_cls hw'
      clear hw'
      generalize hmm : (if avail s' ↑wb (s'.line o k).good < m then avail s' ↑wb (s'.line o k).good else m) = mm
      have hmin : mm = min m (avail s' wb (s'.line o k).good) := by rw [← hmm]; split <;> omega
      have hav := hm'.out.avail hr'.out hwb
      have hmb := hm'.out.back
      have hm0 := hm'.out.n0
      have hgb := hgood.out
      have hmr : mm ≤ m ∧ m ≤ 200 ∧ 0 ≤ mm ∧ mm ≤ avail s' wb (s'.line o k).good := by omega
      have hbr : 0 ≤ (s'.line o k).back ∧ (s'.line o k).back ≤ 200 := by omega
      have hst6 := Lib.hid (hst'.out.trans (.of_below hb6))
      have hBx6 := Lib.hid (hBx'.out.below hb6)
      have hmin' := Lib.hid hmin
      have hdr : takeGo o k but (wb :: (way p).drop (j + 1)) s' m = takeS p s o k n but := by rw [hwbe'.out, ← drop_at hlt]; exact htg'.out
      have hdr' := Lib.hid hdr
      clear hmm hmin hav hmb hm0 hgb hdr q1 q2 zw f0 f1 f2 f3 c0 c1 c2 c3 c4 c5 c6 hV2
      by_cases hsk : (wb : Int) = but ∨ mm < 1
      · have htg2 := Lib.hid (show takeGo o k but ((way p).drop (j + 1)) s' m = takeS p s o k n but by rw [← hdr'.out, takeGo_skip (by rw [← hmin'.out]; exact hsk)])
        by_cases hbut : (wb : Int) = but
        · have hq : ((wb : Int) == but) = true := by simpa using hbut
          clear hsk hbut
          go_wp2_with fail
          go_roundw
          case rel => exact ⟨j + 1, s', m, V', hsb'.out, by omega, by go_num, rfl, hr'.out, hm'.out, htg2.out, hBx6.out, hst6.out⟩
          case measure => simp [intOf]; omega
        · have hq : ((wb : Int) == but) = false := by simpa using hbut
          have hlt1 : mm < 1 := hsk.resolve_left hbut
          clear hsk hbut
          go_wp2_with fail
          go_roundw
          case rel => exact ⟨j + 1, s', m, V', hsb'.out, by omega, by go_num, rfl, hr'.out, hm'.out, htg2.out, hBx6.out, hst6.out⟩
          case measure => simp [intOf]; omega
      · have hbut : ¬ (wb : Int) = but := fun h => hsk (.inl h)
        have hge : 1 ≤ mm := by omega
        have hfit := Lib.hid (hm'.out.fits hwb hge hmr.1 hmr.2.2.2)
        have htg2 := Lib.hid (show takeGo o k but ((way p).drop (j + 1)) (hold1 s' o k wb mm) (m - mm) = takeS p s o k n but by rw [← hdr'.out, takeGo_one hbut (by rw [← hmin'.out]; exact hge), ← hmin'.out])
        have hq : ((wb : Int) == but) = false := by simpa using hbut
        obtain ⟨c0, c1, c2, c3, c4, c5, c6⟩ := hBx6.out.cells
        have hlen := ok_len72 hr2.out.holds
        have hble : base ≤ W6.heap.size := Nat.le_trans hbase (Nat.le_trans hb01.size (Nat.le_trans hst'.out.size hb6.size))
        clear hsk hbut
        go_wp2_with fail
        refine (hdAdd _ _ s'.holds ⟨o, k, wb, mm⟩ (hBx6.out.own.holds.sl (by omega))).mono ?_
        rintro e W7 ⟨u7, rfl, hu7, hb7⟩
        rw [add_fits hr'.out hfit.out] at hu7 ⊢
        have hBx7 := Lib.hid (hBx6.out.below hb7)
        have hu7' := Lib.hid (hu7.from_ hble)
        obtain ⟨A7, c7, rfl⟩ := hu7.isSlice
        clear hu7 c0 c1 c2 c3 c4 c5 c6
        go_wp2_with (refine wp_st_holds rfl (.tmp 73) (.tmp 70) rfl rfl A7 _ c7 _ hBx7.out rfl rfl hu7'.out (fun w8 hBx8 hst8 => ?_); refine Hid.out ?_)
        unfold Hid
        obtain ⟨hgll8, f0, f1, f2, f3⟩ := hBx8.own.lineCells (s := { s' with holds := (hold1 s' o k wb mm).holds }) hm'.out.ho hm'.out.hk (show V'.line o = _ by rw [hsb'.out]; exact e1)
        have hBx8' := Lib.hid hBx8
        have hw1 : IntKind.i64.wrap ((s'.line o k).back - mm) = (s'.line o k).back - mm := IntWalk.i64_in _ (by omega)
        have hw2 : IntKind.i64.wrap (m - mm) = m - mm := IntWalk.i64_in _ (by omega)
        have f3' : w8.cell? ⟨gl, k * 4 + 3, none⟩ = some (.int .i64 (s'.line o k).back) := f3
        clear hBx8 f0 f1 f2 f3
        go_wp2_with (refine wp_st_line rfl (.tmp 81) (.tmp 79) rfl rfl (j := 3) (y := { s'.line o k with back := (s'.line o k).back - mm }) hBx8'.out hm'.out.ho hm'.out.hk (show V'.line o = _ by rw [hsb'.out]; exact e1) (by decide) rfl rfl rfl (fun w9 hBx9 hst9 => ?_); refine Hid.out ?_)
        unfold Hid
        have hBx9' := Lib.hid (show Bx w9 base b t rst { V' with holds := .slice A7 (hold1 s' o k wb mm).holds.length c7 } (hold1 s' o k wb mm) from hBx9)
        have hst9' := Lib.hid (((hst6.out.trans (.of_below hb7)).trans (hst8.mono fun _ h => .inl h)).trans (hst9.mono fun q hq => .inr (by rw [hq, e1]; rfl)))
        clear f3' hBx9 hst9 hst8
        go_wp2_with fail
        go_roundw
        case rel => exact ⟨j + 1, hold1 s' o k wb mm, m - mm, _, by rw [hsb'.out], by omega, by go_num, rfl, hold1_right hr'.out hfit.out, hm'.out.held (Held.one hr'.out hfit.out) hmr.1, htg2.out, hBx9'.out, hst9'.out⟩
        case measure => simp [intOf]; omega
    · obtain rfl : j = (way p).length := by omega
      have hfin := Lib.hid (show (s', m) = takeS p s o k n but by rw [← htg'.out, List.drop_length]; rfl)
      have hsb' := Lib.hid hsb
      clear hr hm htg hBx hst hsb
      go_wp2_with fail
      go_ret
      exact ⟨ret_int (by rw [← hfin.out]), V', hsb'.out, by rw [← hfin.out]; exact hBx'.out, (Step.of_below hb01).trans hst'.out⟩
end Wh
