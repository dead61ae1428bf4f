/- Texts of the claim, joined: WalkT, AllocA, HoldsG, AllocB. -/
import Derived.StillTailTactics
import Derived.Test.YtnjgkhcnialplaaP46
import Derived.Test.YtnjgkhcnialplaaP14
import Derived.Test.YtnjgkhcnialplaaP43
import Derived.Test.YtnjgkhcnialplaaP31
import Derived.Test.YtnjgkhcnialplaaP07
namespace Wh
open Go Go.RowKit Go.Shelf Go.Proofs
attribute [local go_sem] run_indexAt_letter
attribute [local go_sem] Oper.semAt_some

/-- These blocks lie as they are given. -/
def HeldDs (L : List (Nat × Obj)) (W : World) : Prop := ∀ x ∈ L, W.heap[x.1]? = some x.2
theorem HeldDs.lt {L : List (Nat × Obj)} {W : World} (h : HeldDs L W) : ∀ x ∈ L, x.1 < W.heap.size := fun x hx => (Array.getElem?_eq_some_iff.1 (h x hx)).1
theorem HeldDs.grown {L : List (Nat × Obj)} {W W' : World} {row : Option Nat} (h : HeldDs L W) (hg : W.grownBy W' row) (hne : ∀ x ∈ L, some x.1 ≠ row) : HeldDs L W' := fun x hx => (hg.block x.1 (h.lt x hx) (hne x hx)).trans (h x hx)
theorem HeldDs.alloc {L : List (Nat × Obj)} {W : World} (h : HeldDs L W) (o : Obj) : HeldDs L (W.alloc o) := h.grown (World.grownBy_alloc W o none) (fun _ _ e => by cases e)
theorem HeldDs.setCell {L : List (Nat × Obj)} {W : World} (h : HeldDs L W) (B : Nat) (u : Value) (hne : ∀ x ∈ L, x.1 ≠ B) : HeldDs L (W.setCell ⟨B, 0, none⟩ u) := h.grown (grownBy_setCell' W B u) (fun x hx e => hne x hx (by cases e; rfl))
theorem HeldDs.not_row {L : List (Nat × Obj)} {W : World} {e : TypeId} (h : HeldDs L W) (ht : ∀ x ∈ L, ∀ cs sp, x.2 ≠ .cells cs e sp) {base size k : Nat} {v : Value} {xs : List Value} (hr : W.ownsRow base e size v k xs) : ∀ x ∈ L, some x.1 ≠ v.ownBlock := by
  intro x hx
  rcases hr.2 with ⟨rfl, _⟩ | ⟨g, cap, cur, rfl, _, hgb, _⟩
  · simp [Value.ownBlock]
  · intro e'
    obtain ⟨i, o⟩ := x
    obtain rfl : i = g := by simpa [Value.ownBlock] using e'
    have h1 := h _ hx
    simp only at h1
    rw [hgb] at h1
    exact ht _ hx _ _ (Option.some.inj h1).symm
theorem HeldDs.from_ {β : Type} {B : Nat} {L : List (Nat × Obj)} (hB : ∀ x ∈ L, x.1 < B) : OwnFrom B (fun (_ : β) W => HeldDs L W) := fun _ _ _ _ hs hg hr => hs.grown hg (fun x hx e => by
  have := (hr x.1 e.symm).1
  have := hB x hx
  omega)
theorem cell_of_heap {W : World} {B j : Nat} {vs : Array Value} {t : TypeId} {v : Value} (h : W.heap[B]? = some (.cells vs t (0, 0))) (hj : vs[j]? = some v) : W.cell? ⟨B, j, none⟩ = some v := by
  simp [World.cell?, h, hj]
theorem heap_alloc_old {W : World} {o : Obj} {B : Nat} (h : B < W.heap.size) : (W.alloc o).heap[B]? = W.heap[B]? := Below.heap_alloc W o B h
theorem heap_alloc_at {W : World} {o : Obj} {B : Nat} (h : B = W.heap.size) : (W.alloc o).heap[B]? = some o := by
  subst h
  exact World.alloc_heap_new W o
theorem cell_lt' {w : World} {a : Addr} {v : Value} (h : w.cell? a = some v) : a.block < w.heap.size := by
  by_cases hlt : a.block < w.heap.size
  · exact hlt
  · unfold World.cell? at h
    rw [Array.getElem?_eq_none (by omega)] at h
    simp at h

def outI (n₀ Bo : Nat) (pre0 : List Nat) (L : List (Nat × Obj)) (W0 : World) (pre : List Nat) (W : World) : Prop :=
  ((∃ u, Boxed W Bo 23 u ∧ Own cInt 1 3 W n₀ u (nats (pre0 ++ pre)) ∧ True) ∧ HeldDs L W) ∧ Below n₀ W0 W

set_option maxRecDepth 100000 in
set_option maxHeartbeats 4000000 in
theorem wayLoop (Q : Exit → Act → World → Prop) (ds : List Deferred) (W0 : World) (Bo Bp Bf n₀ : Nat) (u : Value) (pre0 : List Nat) (L : List (Nat × Obj)) (p : Plan) (f : Bool) (Ab As : Option Addr) (cb cs : Nat) (hlb : p.bins.length ≤ 6) (hl0 : pre0.length ≤ 6)
    (t0 t1 t2 t3 t4 t6 t7 t8 t9 t10 t11 t12 t13 t14 t15 t16 t17 t18 t19 t20 t21 t23 t24 t25 t26 t27 t28 t29 : Value) (hn0 : n₀ ≤ W0.heap.size) (hBo : n₀ ≤ Bo)
    (hp0 : W0.cell? ⟨Bp, 0, none⟩ = some (.slice Ab p.bins.length cb)) (hp1 : W0.cell? ⟨Bp, 1, none⟩ = some (.slice As p.sizes.length cs)) (hA : At W0 n₀ Ab (p.bins.flatMap cBin))
    (hbox : Boxed W0 Bo 23 u) (hown : Own cInt 1 3 W0 n₀ u (nats pre0)) (hL : HeldDs L W0) (hLf : (Bf, Obj.cells #[.bool f] 4 (0, 0)) ∈ L) (hLt : ∀ x ∈ L, ∀ cs sp, x.2 ≠ .cells cs 3 sp) (hLo : ∀ x ∈ L, x.1 ≠ Bo)
    (hdone : ∀ (D : Nat) (W : World), W0.heap.size ≤ D → outI n₀ Bo pre0 L W0 (kinds p f) W → W.heap[D]? = some (.deferred (some [])) → Q .normal { tmps := #[t0, t1, t2, t3, t4, .pointer (some ⟨Bo, 0, none⟩), t6, t7, t8, t9, t10, t11, t12, t13, t14, t15, t16, t17, t18, t19, t20, t21, .func (.func 123) #[] #[.pointer (some ⟨Bp, 0, none⟩), .pointer (some ⟨Bf, 0, none⟩)], t23, t24, t25, t26, t27, t28, t29], defers := { target := .collected D, args := #[] } :: ds } W) :
    (Code.rangeFunc (Operand.tmp 22) #[23] (Code.region 9 #[{ dst := some 8, op := Op.assign (Operand.tmp 23), type := 3, pos := "plan.go:45", after := #[], guard := none }] false)
      (Code.block 3 (Code.region 10 #[
        { dst := some 24, op := Op.load 23 (Operand.tmp 5), type := 23, pos := "plan.go:46", after := #[], guard := none },
        { dst := some 25, op := Op.move (Operand.tmp 8), type := 3, pos := "plan.go:46", after := #[], guard := none },
        { dst := some 26, op := Op.buildSlice 23 1 #[(0, Operand.tmp 25)], type := 23, pos := "plan.go:46", after := #[{ on := 1, ground := Ground.data }], guard := none },
        { dst := some 27, op := Op.call { callee := Callee.builtin Builtin.append, args := #[Operand.tmp 24, Operand.tmp 26], argTypes := #[23, 23] }, type := 23, pos := "plan.go:46", after := #[{ on := 0, ground := Ground.data }, { on := 2, ground := Ground.data }], guard := none },
        { dst := none, op := Op.store 23 (Operand.tmp 5) (Operand.tmp 27), type := 0, pos := "plan.go:46", after := #[{ on := 3, ground := Ground.data }, { on := 3, ground := Ground.chain }, { on := 0, ground := Ground.phase }, { on := 1, ground := Ground.phase }, { on := 2, ground := Ground.phase }, { on := 3, ground := Ground.phase }], guard := none }] false))).wpIn Fence.wide 5 Try.prog Q
      { tmps := #[t0, t1, t2, t3, t4, .pointer (some ⟨Bo, 0, none⟩), t6, t7, t8, t9, t10, t11, t12, t13, t14, t15, t16, t17, t18, t19, t20, t21, .func (.func 123) #[] #[.pointer (some ⟨Bp, 0, none⟩), .pointer (some ⟨Bf, 0, none⟩)], t23, t24, t25, t26, t27, t28, t29], defers := ds } W0 := by
  have bF : W0.cell? ⟨Bf, 0, none⟩ = some (.bool f) := Boxed.cell (hL _ hLf)
  have hBf : Bf < W0.heap.size := hL.lt _ hLf
  have hBpl : Bp < W0.heap.size := cell_lt' hp0
  refine wpIn_rangeFunc_ownG rfl (by omega) (gf := 123) (lb := #[.pointer (some ⟨Bp, 0, none⟩), .pointer (some ⟨Bf, 0, none⟩)]) rfl trivial (enters_of Try.func123 (by kernel_rfl) rfl)
    (bins_stops Fence.wide (5 - 1) trivial rfl (by omega) Bp Bf n₀ p f Ab As cb cs hlb W0 hn0 hBpl hBf hp0 hp1 bF hA)
    (fun h k => ⟨h.1.trans k.1, k.2.trans h.2⟩)
    (fun W l o o' hl ho hc hw => ⟨belowK_b hn0 W l o o' hl ho hc hw, ((Below.refl W0.heap.size W).grown (grownBy_putObj' W l o') (by have := (Array.getElem?_eq_some_iff.1 ho).1; omega) (fun k e => by cases e; exact hl)).cell (p := ⟨Bf, 0, none⟩) hBf⟩)
    (Below.refl _ _) (fun _ => rfl)
    (outI n₀ Bo pre0 L W0)
    (fun _ _ _ => False)
    (OwnFrom.and (OwnFrom.and (Own.from (holdsRow_own n₀ Bo 23 3 1 (fun pre => (nats (pre0 ++ pre)).length) (fun pre => (nats (pre0 ++ pre)).flatMap cInt) (fun _ _ => True)) _) (HeldDs.from_ hL.lt)) (ownFrom_below hn0 hn0))
    (fun _ _ _ _ _ hs _ _ => hs)
    ⟨⟨⟨u, hbox, by simpa using hown, trivial⟩, hL⟩, Below.refl _ _⟩
    (fun x => { tmps := #[t0, t1, t2, t3, t4, .pointer (some ⟨Bo, 0, none⟩), t6, t7, .int .i64 ((x : Nat) : Int), t9, t10, t11, t12, t13, t14, t15, t16, t17, t18, t19, t20, t21, .func (.func 123) #[] #[.pointer (some ⟨Bp, 0, none⟩), .pointer (some ⟨Bf, 0, none⟩)], .int .i64 ((x : Nat) : Int), t24, t25, t26, t27, t28, t29], defers := [] }) ?assign ?body ?done ?stop
  case assign =>
    intro l x W K hK
    gi_wp2
    exact hK
  case body =>
    rintro l pre x W ⟨⟨⟨v, hv, hrow, _⟩, hH⟩, hB⟩ hlt
    have hc := hv.cell
    have hlen : (nats (pre0 ++ pre)).length ≤ 12 := by rw [nats_length, List.length_append]; omega
    obtain ⟨i0, hi, hz0, hz1, hz2⟩ := elem_of (P := Try.prog) (e := 3) (z := .int .i64 0) (size := 1) (bytes := 8) (by kernel_rfl)
    have u23 : Try.prog.underlying 23 = some (.slice 3) := by kernel_rfl
    gi_wp2_with (gi_at_builtin; refine wpListIn_append_own _ rfl _ _ 23 rfl n₀ 3 i0 (.int .i64 0) 1 8 u23 hi hz0 hz1 hz2 rfl (by decide) _ _ _ rfl (World.ownsRow.alloc hrow _) ⟨W.heap.size, 0, none⟩ 1 1 [.int .i64 ((x : Nat) : Int)] rfl rfl (cell_one_new _ _ _) (by simp [Value.oneCell']) (by unfold maxLen; omega) (by omega) (by have := hB.size; simp; omega) ?_; intro v' w1 hown' hgrow _; obtain ⟨g', cap', rfl⟩ := ownsRow_succ hown'; obtain ⟨hv1, hv2, hr2, hk2, hb2⟩ := hv.appended (by decide) hrow (Nat.le_trans hn0 hB.size) hBo hown' hgrow; have hc1 := hv1.cell; have hf1 := hv1.frozen)
    have hH' := ((hH.alloc _).grown hgrow (hH.not_row hLt hrow)).setCell Bo (.slice (some ⟨g', 0, none⟩) ((nats (pre0 ++ pre)).length + 1) cap') hLo
    refine ⟨hk2.from _, ⟨hb2, (Boxed.cell (hH' _ hLf)).trans (Boxed.cell (hH _ hLf)).symm⟩, ⟨⟨_, hv2, ?_, trivial⟩, hH'⟩, hB.trans hb2⟩
    unfold Own
    have e1 : nats (pre0 ++ (pre ++ [x])) = nats (pre0 ++ pre) ++ [(x : Int)] := by simp [nats]
    have e2 : (nats (pre0 ++ pre) ++ [(x : Int)]).length = (nats (pre0 ++ pre)).length + 1 := by simp
    have e3 : (nats (pre0 ++ pre) ++ [(x : Int)]).flatMap cInt = (nats (pre0 ++ pre)).flatMap cInt ++ [.int .i64 ((x : Nat) : Int)] := by rw [List.flatMap_append]; simp [cInt]
    rw [e1, e2, e3]
    exact hr2
  case done =>
    rintro D ys W hD rfl hI hK
    exact hdone D W hD hI hK
  case stop =>
    rintro D c pre W _ _ h _
    exact h.elim

set_option maxRecDepth 100000 in
set_option maxHeartbeats 4000000 in
theorem planWayOwn (w : World) (v : Value) (p : Plan) (hp : PlanV w w.heap.size v p) :
    Calls Try.prog 106 #[v] w fun e w' => ∃ u, e = .returned (.tuple #[u, .int .i64 (checkPlan p)]) ∧ Own cInt 1 3 w' w.heap.size u (if checkPlan p = 0 then nats (way p) else []) ∧ Below w.heap.size w w' := by
  have hP := hp
  obtain ⟨_, _, rfl, ⟨Ab, cb, rfl, hlb, hb⟩, ⟨As, cs, rfl, hls, hs⟩⟩ := hp
  have hb0 : Below w.heap.size w (w.alloc (.cells #[.slice Ab p.bins.length cb, .slice As p.sizes.length cs] 25)) := (Below.refl _ _).alloc (Nat.le_refl _) _
  refine (callsIn_wide (n := 5)).1 ?_
  refine callsIn_of_wp_marks Try.func106 rfl trivial ?_ rfl
  simp only [Try.ntmps106, List.size_toArray, List.length_cons, List.length_nil, Nat.reduceAdd, Nat.reduceSub, Array.replicate_succ, Array.replicate_zero, List.push_toArray, List.append_toArray, List.nil_append, List.cons_append]
  gi_wp2_with fail
  refine ⟨trivial, (callsIn_wide.2 (planCheck _ _ p (hP.grow hb0))).mono ?_⟩
  rintro e W1 ⟨rfl, hb1⟩
  have hbw := hb0.trans (hb1.mono hb0.size)
  obtain ⟨hc1, hf1⟩ := bcell hb1
  have hlt1 : w.heap.size < W1.heap.size := by have := hb1.size; simp at this; omega
  by_cases hz : checkPlan p = 0
  · gi_wp2
    refine wpIn_loop_rounds 3 ?_
    rw [roundsIn_succ]
    gi_wp2_with fail
    refine ⟨trivial, (bins_in Fence.wide 4 trivial rfl _ _ _ _).mono ?_⟩
    rintro e W2 ⟨rfl, rfl⟩
    simp only [World.size_alloc]
    gi_wp2_with fail
    have q0 := Boxed.new W1 23 (.slice none 0 0)
    have q1 := World.alloc_heap_new (W1.alloc (.cells #[.slice none 0 0] 23)) (.cells #[.bool true, .bool false] 4)
    refine wayLoop _ _ _ W1.heap.size (W1.heap.size + 1 + 1) (W1.heap.size + 1 + 1 + 1) W1.heap.size (.slice none 0 0) [] [(W1.heap.size + 1 + 1 + 1, .cells #[.bool true] 4 (0, 0)), (W1.heap.size + 1, .cells #[.bool true, .bool false] 4 (0, 0))] p true Ab As cb cs (right_counts hz).2.1 (by simp) _ _ _ _ _ _ _ _ _ _ _ _ _ _ _ _ _ _ _ _ _ _ _ _ _ _ _ _ (by simp; omega) (Nat.le_refl _) ?a0 ?a1 ?a2 ?a3 ?a4 ?a5 ?a6 ?a7 ?a8 ?a9
    case a0 => exact cell_of_heap ((heap_alloc_old (by simp)).trans (heap_alloc_at (by simp))) rfl
    case a1 => exact cell_of_heap ((heap_alloc_old (by simp)).trans (heap_alloc_at (by simp))) rfl
    case a2 => exact (hb.up hb0 hb0.size).up hb1 hb1.size |>.up (((((Below.refl _ _).alloc (Nat.le_refl _) _).alloc (by simp) _).alloc (by simp; omega) _).alloc (by simp; omega) _) (Nat.le_refl _)
    case a3 => exact ((q0.alloc _).alloc _).alloc _
    case a4 => exact Own.nil
    case a5 =>
      intro x hx
      simp at hx
      rcases hx with rfl | rfl
      · exact heap_alloc_at (by simp)
      · exact (heap_alloc_old (by simp)).trans ((heap_alloc_old (by simp)).trans (heap_alloc_at (by simp)))
    case a6 => simp
    case a7 =>
      intro x hx cs sp e
      simp at hx
      rcases hx with rfl | rfl <;> simp at e
    case a8 =>
      intro x hx
      simp at hx
      rcases hx with rfl | rfl
      · show W1.heap.size + 1 + 1 + 1 ≠ W1.heap.size; omega
      · show W1.heap.size + 1 ≠ W1.heap.size; omega
    case a9 =>
      intro D W hD hI hK
      obtain ⟨⟨⟨u, hu, hown, _⟩, hH⟩, hB⟩ := hI
      have hB1 : Below W1.heap.size W1 W := Below.trans (((((Below.refl _ _).alloc (Nat.le_refl _) _).alloc (by simp) _).alloc (by simp; omega) _).alloc (by simp; omega) _) hB
      have z1 : W.cell? ⟨w.heap.size, 0, none⟩ = some (.slice Ab p.bins.length cb) := (hB1.cell (p := ⟨w.heap.size, 0, none⟩) hlt1).trans ((hc1 w.heap.size 0 (by simp)).trans (by simp))
      have z2 : W.cell? ⟨w.heap.size, 1, none⟩ = some (.slice As p.sizes.length cs) := (hB1.cell (p := ⟨w.heap.size, 1, none⟩) hlt1).trans ((hc1 w.heap.size 1 (by simp)).trans (by simp))
      have g1 : W.cell? ⟨W1.heap.size + 1, 1, none⟩ = some (.bool false) := by
        have := hH (W1.heap.size + 1, .cells #[.bool true, .bool false] 4 (0, 0)) (by simp)
        simp only at this
        simp [World.cell?, this]
      simp at hD
      gi_wp2
      rw [roundsIn_succ]
      gi_wp2_with fail
      refine ⟨trivial, (bins_in Fence.wide 4 trivial rfl _ _ _ _).mono ?_⟩
      rintro e W2 ⟨rfl, rfl⟩
      gi_wp2_with fail
      have hWs : W1.heap.size ≤ W.heap.size := hB1.size
      have hDl := (Array.getElem?_eq_some_iff.1 hK).1
      have hul := hu.lt
      refine wayLoop _ _ _ W1.heap.size W.heap.size (W.heap.size + 1) W1.heap.size u (kinds p true) [(W.heap.size + 1, .cells #[.bool false] 4 (0, 0)), (D, .deferred (some []))] p false Ab As cb cs (right_counts hz).2.1 (Nat.le_trans (kindsTo_length p true p.bins.length) (right_counts hz).2.1) _ _ _ _ _ _ _ _ _ _ _ _ _ _ _ _ _ _ _ _ _ _ _ _ _ _ _ _ (by simp; omega) (Nat.le_refl _) ?b0 ?b1 ?b2 ?b3 ?b4 ?b5 ?b6 ?b7 ?b8 ?b9
      case b0 => exact cell_of_heap ((heap_alloc_old (by simp)).trans (heap_alloc_at rfl)) rfl
      case b1 => exact cell_of_heap ((heap_alloc_old (by simp)).trans (heap_alloc_at rfl)) rfl
      case b2 => exact ((hb.up hb0 hb0.size).up hb1 hb1.size |>.up hB1 (Nat.le_refl _)).up (((Below.refl _ _).alloc hWs _).alloc (by simp; omega) _) (Nat.le_refl _)
      case b3 => exact (hu.alloc _).alloc _
      case b4 => exact (by simpa using hown : Own cInt 1 3 W W1.heap.size u (nats (kinds p true))) |>.alloc _ |>.alloc _
      case b5 =>
        intro x hx
        simp at hx
        rcases hx with rfl | rfl
        · exact heap_alloc_at (by simp)
        · exact (heap_alloc_old (by simp; omega)).trans ((heap_alloc_old hDl).trans hK)
      case b6 => simp
      case b7 =>
        intro x hx cs sp e
        simp at hx
        rcases hx with rfl | rfl <;> simp at e
      case b8 =>
        intro x hx
        simp at hx
        rcases hx with rfl | rfl
        · show W.heap.size + 1 ≠ W1.heap.size; omega
        · show D ≠ W1.heap.size; omega
      case b9 =>
        intro D2 W3 hD2 hI2 hK2
        obtain ⟨⟨⟨u2, hu2, hown2, _⟩, hH2⟩, hB2⟩ := hI2
        have hKD := hH2 (D, .deferred (some [])) (by simp)
        have hc2 := hu2.cell
        simp at hD2
        gi_wp2
        rw [roundsIn_succ]
        gi_wp2
        have hne : D ≠ D2 := by omega
        have hKD' : (W3.putObj D2 (.deferred none)).heap[D]? = some (.deferred (some [])) := (World.putObj_heap_other hne).trans hKD
        have hB3 : Below W1.heap.size W1 W3 := hB1.trans ((((Below.refl _ _).alloc hWs _).alloc (by simp; omega) _).trans hB2)
        have hB4 : Below W1.heap.size W1 (W3.putObj D2 (.deferred none)) := hB3.trans (belowK_b (Nat.le_refl _) W3 D2 _ _ (by omega) hK2 rfl rfl)
        have hB5 : Below W1.heap.size W1 ((W3.putObj D2 (.deferred none)).putObj D (.deferred none)) := hB4.trans (belowK_b (Nat.le_refl _) _ D _ _ (by omega) hKD' rfl rfl)
        have hown5 : Own cInt 1 3 ((W3.putObj D2 (.deferred none)).putObj D (.deferred none)) W1.heap.size u2 (nats (way p)) := ownsRow_putObj (ownsRow_putObj hown2 _ hK2 rfl) _ hKD' rfl
        refine ⟨by simp, .inl ⟨_, _, rfl, run_takeDeferred hK2, ?_⟩⟩
        refine ⟨by simp, .inl ⟨_, _, rfl, run_takeDeferred hKD', ?_⟩⟩
        refine ⟨_, by simp [results, Try.results106, go_sem], u2, rfl, hown5.from_ hbw.size, hbw.trans (hB5.mono hbw.size)⟩
  · have hzb : (checkPlan p != 0) = true := by simpa using hz
    have hzf : (checkPlan p == 0) = false := by simpa using hz
    gi_wp2
    refine ⟨_, by simp [results, Try.results106, go_sem], _, rfl, Own.nil, hbw⟩
theorem planWay (w : World) (v : Value) (p : Plan) (hp : PlanV w w.heap.size v p) :
    Calls Try.prog 106 #[v] w fun e w' => ∃ u, e = .returned (.tuple #[u, .int .i64 (checkPlan p)]) ∧ Sl cInt w' w'.heap.size u (if checkPlan p = 0 then nats (way p) else []) ∧ Below w.heap.size w w' := by
  have hl : p.bins.length ≤ 140737488355232 := let ⟨_, _, _, ⟨_, _, _, hlb, _⟩, _⟩ := hp; hlb
  refine (planWayOwn w v p hp).mono ?_
  rintro e w' ⟨u, he, hu, hb⟩
  refine ⟨u, he, hu.sl ?_, hb⟩
  split
  · rw [nats_length, way_length]; exact hl
  · simp
end Wh
namespace Wh
open Go Go.RowKit Go.Shelf Go.Proofs
attribute [local go_sem] run_indexAt_letter

section
variable {p : Plan} {s : State} {o k b : Nat} {m : Int}
theorem add_fits (h : Right p s) (f : Fits p s o k b m) : add s.holds ⟨o, k, b, m⟩ = ((hold1 s o k b m).holds, 0) := by
  have h1 := h.sane.holds
  have hkey := key_of h.sane f.ho f.hk f.hb
  obtain ⟨k1, k2⟩ := fits_kept h f
  have hf : holdFine ⟨o, k, b, m⟩ = true := fine_iff.2 ⟨hkey, by have := f.m1; simp only; omega⟩
  unfold add
  rw [h1, hf, if_neg (by simp), if_neg (by simp)]
  simp only
  rw [if_neg (by omega)]
  rfl
end
theorem nats_at {l : List Nat} {j : Nat} (hj : j < l.length) : intAt (nats l) j = (l[j] : Int) := by
  unfold intAt nats
  simp [hj]
theorem drop_at {l : List Nat} {j : Nat} (hj : j < l.length) : l.drop j = l[j] :: l.drop (j + 1) := List.drop_eq_getElem_cons hj

theorem OwnSt.lineCells {w : World} {base : Nat} {V : SV} {s : State} (h : OwnSt w base V s) {o k : Nat} (ho : o < s.orders.length) (hk : k < (s.order o).lines.length) {gl n c : Nat} (hv : V.line o = .slice (some ⟨gl, 0, none⟩) n c) : gl < w.heap.size ∧
    w.cell? ⟨gl, k * 4, none⟩ = some (.int .i64 (s.line o k).good) ∧ w.cell? ⟨gl, k * 4 + 1, none⟩ = some (.int .i64 (s.line o k).want) ∧ w.cell? ⟨gl, k * 4 + 2, none⟩ = some (.int .i64 (s.line o k).got) ∧ w.cell? ⟨gl, k * 4 + 3, none⟩ = some (.int .i64 (s.line o k).back) := by
  obtain ⟨g', c', cur, e1, _, e3, f⟩ := h.lineAt ho hk
  rw [hv] at e1
  injection e1 with e1
  injection e1 with e1
  injection e1 with e1
  subst e1
  exact ⟨e3.lt, f⟩
/-- What holding in a state of one's own does. -/
def HoldPost (p : Plan) (s : State) (o k : Nat) (n but : Int) (w : World) (base b : Nat) (t : TypeId) (rst : List Value) (V : SV) (e : Ending) (w' : World) : Prop :=
  e = .returned (.int .i64 (takeS p s o k n but).2) ∧ ∃ V', V' = { V with holds := V'.holds } ∧ Bx w' base b t rst V' (takeS p s o k n but).1 ∧ Step (fun j => j = b ∨ (V.line o).ownBlock = some j) w w'

set_option maxHeartbeats 8000000 in
set_option maxRecDepth 100000 in
theorem alHold (w : World) (v : Value) (p : Plan) (s : State) (o k : Nat) (n but : Int) {base b : Nat} {t : TypeId} {rst : List Value} {V : SV} (hp : PlanV w w.heap.size v p) (hr : Right p s) (hm : May s o k n) (hB : Bx w base b t rst V s) (hbase : base ≤ w.heap.size) :
    Calls Try.prog 76 #[v, .pointer (some ⟨b, 0, none⟩), .int .i64 o, .int .i64 k, .int .i64 n, .int .i64 but] w (HoldPost p s o k n but w base b t rst V) := by
  obtain ⟨Ab, cb, As, cs, rfl, hP', hBn, hSz, hlb, hls⟩ := openPl hp
  go_enter Try.func76, Try.ntmps76
  go_wp2_with fail
  obtain ⟨W0, hW0, hb0, hsz0, hK⟩ := boxesPl w p Ab cb As cs
  rw [hW0]
  clear hW0
  have hz := hr.sane.plan
  obtain ⟨y0, y1, hbz1⟩ := hK.out W0 (Below.refl _ _)
  go_wp2_with fail
  refine (planWayOwn _ _ p (hP'.out _ hb0)).mono ?_
  rintro e W1 ⟨uw, rfl, hway, h1⟩
  rw [hz] at hway ⊢
  rw [if_pos rfl] at hway
  obtain ⟨Aw, cw, rfl⟩ := hway.isSlice
  rw [nats_length] at hway ⊢
  have hBlt := hB.lt
  have hb01 := hb0.trans (h1.mono hb0.size)
  have hB1 := Lib.hid (hB.below hb01)
  obtain ⟨gl, cl, curl, e1, hgl, hblk, f0, f1, f2, f3⟩ := hB1.out.own.lineAt hm.ho hm.hk
  have hll := ((hB.own.line o hm.ho).size gl (by rw [e1]; rfl)).2
  obtain ⟨go, co, curo, eo, hgo, hblko, z0, z1⟩ := hB1.out.own.orderAt hm.ho
  obtain ⟨c0, c1, c2, c3, c4, c5, c6⟩ := hB1.out.cells
  rw [eo] at c1
  rw [e1] at z1
  have hon : (o : Int) < (s.orders.length : Int) := by have := hm.ho; omega
  have hkn : (k : Int) < ((s.order o).lines.length : Int) := by have := hm.hk; omega
  have hm' := Lib.hid hm
  have hr' := Lib.hid hr
  have hway' := Lib.hid hway
  have hlw : (way p).length ≤ 6 := by rw [way_length]; exact hr.sane.counts.2.1
  clear hm hr hway hB hz y0 y1 hP' hBn hSz hK
  go_wp2_with fail
  clear c0 c1 c2 c3 c4 c5 c6 z0 z1 f0 f1 f2 f3 hon hkn eo hblko hblk
  have hl0 : W0.heap.size ≤ W1.heap.size := h1.size
  go_loopw [36, 4, 17, 18] (fun i n' _ _ wr => ∃ (j : Nat) (s' : State) (m : Int) (V' : SV), V' = { V with holds := V'.holds } ∧ j ≤ (way p).length ∧ i = .int .i64 j ∧ n' = .int .i64 m ∧ Right p s' ∧ May s' o k m ∧ takeGo o k but ((way p).drop j) s' m = takeS p s o k n but ∧
    Bx wr base b t rst V' s' ∧ Step (fun j => j = b ∨ (V.line o).ownBlock = some j) W1 wr) (fun i _ _ _ _ => (way p).length - (intOf i).toNat)
  case atStart => exact ⟨0, s, n, V, rfl, Nat.zero_le _, rfl, rfl, hr'.out, hm'.out, rfl, hB1.out, Step.refl _ _⟩
  case round =>
    clear hr' hm' hB1
    obtain ⟨j, s', m, V', hsb, hj, rfl, rfl, hr, hm, htg, hBx, hst⟩ := hrel
    have hr' := Lib.hid hr
    have hm' := Lib.hid hm
    have htg' := Lib.hid htg
    have hBx' := Lib.hid hBx
    have hst' := Lib.hid hst
    have hks := Lib.hid (show ∀ j, (j = b ∨ (V.line o).ownBlock = some j) → j < W0.heap.size from fun j h => by
      have := hb0.size
      rcases h with rfl | h
      · omega
      · rw [e1] at h
        change some gl = some j at h
        injection h with h
        omega)
    by_cases hlt : j < (way p).length
    · have hwb := way_bins p _ (List.getElem_mem hlt)
      have hwr := hway'.out.step hst (fun k hk hks' => absurd (hks.out k hks') (by have := (hway'.out.size k hk).1; omega))
      obtain ⟨gw, cw', curw, ew, hgw, hbw, zw⟩ := OwnSt.intAtOwn hwr (g := j) (by rw [nats_length]; exact hlt)
      rw [nats_at hlt] at zw
      obtain ⟨wb, hwbe⟩ : ∃ x, x = (way p)[j] := ⟨_, rfl⟩
      rw [← hwbe] at zw hwb
      have hwbe' := Lib.hid hwbe
      clear hwbe
      obtain rfl : Aw = some ⟨gw, 0, none⟩ := by injection ew
      clear ew
      obtain ⟨hgll, f0, f1, f2, f3⟩ := hBx.own.lineCells hm.ho hm.hk (show V'.line o = _ by rw [hsb]; exact e1)
      obtain ⟨c0, c1, c2, c3, c4, c5, c6⟩ := hBx.cells
      have q1 := fun o d os => cells_wld (w := wr) (b := b) hBx.lt o d os
      have q2 := fun o d os => cells_wld (w := wr) (b := gl) hgll o d os
      have hV2 := Lib.hid (fun d os => (hBx.own.view hr.sane).up (below_wld wr d os) (below_wld wr d os).size)
      have hgood := Lib.hid (hr.sane.line hm.ho hm.hk)
      have hjl : (j : Int) < ((way p).length : Int) := by omega
      have hr2 := Lib.hid hr.sane
      have hbb := Lib.hid (show 0 ≤ (wb : Int) ∧ (wb : Int) < p.bins.length by omega)
      have hsb' := Lib.hid hsb
      clear hr hm htg hBx hst hwr hbw hsb
      go_wp2_with fail
      refine wp_region_wld (by kernel_rfl) (by kernel_rfl) ?_
      repeat (go_big_quiet_step ((go_at_call 61; refine calls_wld (sLeft _ _ p s' wb _ (hV2.out _ _) hr2.out hbb.out hgood.out.1))))
      refine wpQuiet_nil ?_
      intro W6 hw'
      have hb6 := below_of_cls hw'
      clear hw'
      generalize hmm : (if avail s' ↑wb (s'.line o k).good < m then avail s' ↑wb (s'.line o k).good else m) = mm
      have hmin : mm = min m (avail s' wb (s'.line o k).good) := by rw [← hmm]; split <;> omega
      have hav := hm'.out.avail hr'.out hwb
      have hmb := hm'.out.back
      have hm0 := hm'.out.n0
      have hgb := hgood.out
      have hmr : mm ≤ m ∧ m ≤ 200 ∧ 0 ≤ mm ∧ mm ≤ avail s' wb (s'.line o k).good := by omega
      have hbr : 0 ≤ (s'.line o k).back ∧ (s'.line o k).back ≤ 200 := by omega
      have hst6 := Lib.hid (hst'.out.trans (.of_below hb6))
      have hBx6 := Lib.hid (hBx'.out.below hb6)
      have hmin' := Lib.hid hmin
      have hdr : takeGo o k but (wb :: (way p).drop (j + 1)) s' m = takeS p s o k n but := by rw [hwbe'.out, ← drop_at hlt]; exact htg'.out
      have hdr' := Lib.hid hdr
      clear hmm hmin hav hmb hm0 hgb hdr q1 q2 zw f0 f1 f2 f3 c0 c1 c2 c3 c4 c5 c6 hV2
      by_cases hsk : (wb : Int) = but ∨ mm < 1
      · have htg2 := Lib.hid (show takeGo o k but ((way p).drop (j + 1)) s' m = takeS p s o k n but by rw [← hdr'.out, takeGo_skip (by rw [← hmin'.out]; exact hsk)])
        by_cases hbut : (wb : Int) = but
        · have hq : ((wb : Int) == but) = true := by simpa using hbut
          clear hsk hbut
          go_wp2_with fail
          go_roundw
          case rel => exact ⟨j + 1, s', m, V', hsb'.out, by omega, by go_num, rfl, hr'.out, hm'.out, htg2.out, hBx6.out, hst6.out⟩
          case measure => simp [intOf]; omega
        · have hq : ((wb : Int) == but) = false := by simpa using hbut
          have hlt1 : mm < 1 := hsk.resolve_left hbut
          clear hsk hbut
          go_wp2_with fail
          go_roundw
          case rel => exact ⟨j + 1, s', m, V', hsb'.out, by omega, by go_num, rfl, hr'.out, hm'.out, htg2.out, hBx6.out, hst6.out⟩
          case measure => simp [intOf]; omega
      · have hbut : ¬ (wb : Int) = but := fun h => hsk (.inl h)
        have hge : 1 ≤ mm := by omega
        have hfit := Lib.hid (hm'.out.fits hwb hge hmr.1 hmr.2.2.2)
        have htg2 := Lib.hid (show takeGo o k but ((way p).drop (j + 1)) (hold1 s' o k wb mm) (m - mm) = takeS p s o k n but by rw [← hdr'.out, takeGo_one hbut (by rw [← hmin'.out]; exact hge), ← hmin'.out])
        have hq : ((wb : Int) == but) = false := by simpa using hbut
        obtain ⟨c0, c1, c2, c3, c4, c5, c6⟩ := hBx6.out.cells
        have hlen := ok_len72 hr2.out.holds
        have hble : base ≤ W6.heap.size := Nat.le_trans hbase (Nat.le_trans hb01.size (Nat.le_trans hst'.out.size hb6.size))
        clear hsk hbut
        go_wp2_with fail
        refine (hdAdd _ _ s'.holds ⟨o, k, wb, mm⟩ (hBx6.out.own.holds.sl (by omega))).mono ?_
        rintro e W7 ⟨u7, rfl, hu7, hb7⟩
        rw [add_fits hr'.out hfit.out] at hu7 ⊢
        have hBx7 := Lib.hid (hBx6.out.below hb7)
        have hu7' := Lib.hid (hu7.from_ hble)
        obtain ⟨A7, c7, rfl⟩ := hu7.isSlice
        clear hu7 c0 c1 c2 c3 c4 c5 c6
        go_wp2_with (refine wp_st_holds rfl (.tmp 73) (.tmp 70) rfl rfl A7 _ c7 _ hBx7.out rfl rfl hu7'.out (fun w8 hBx8 hst8 => ?_); refine Hid.out ?_)
        unfold Hid
        obtain ⟨hgll8, f0, f1, f2, f3⟩ := hBx8.own.lineCells (s := { s' with holds := (hold1 s' o k wb mm).holds }) hm'.out.ho hm'.out.hk (show V'.line o = _ by rw [hsb'.out]; exact e1)
        have hBx8' := Lib.hid hBx8
        have hw1 : IntKind.i64.wrap ((s'.line o k).back - mm) = (s'.line o k).back - mm := IntWalk.i64_in _ (by omega)
        have hw2 : IntKind.i64.wrap (m - mm) = m - mm := IntWalk.i64_in _ (by omega)
        have f3' : w8.cell? ⟨gl, k * 4 + 3, none⟩ = some (.int .i64 (s'.line o k).back) := f3
        clear hBx8 f0 f1 f2 f3
        go_wp2_with (refine wp_st_line rfl (.tmp 81) (.tmp 79) rfl rfl (j := 3) (y := { s'.line o k with back := (s'.line o k).back - mm }) hBx8'.out hm'.out.ho hm'.out.hk (show V'.line o = _ by rw [hsb'.out]; exact e1) (by decide) rfl rfl rfl (fun w9 hBx9 hst9 => ?_); refine Hid.out ?_)
        unfold Hid
        have hBx9' := Lib.hid (show Bx w9 base b t rst { V' with holds := .slice A7 (hold1 s' o k wb mm).holds.length c7 } (hold1 s' o k wb mm) from hBx9)
        have hst9' := Lib.hid (((hst6.out.trans (.of_below hb7)).trans (hst8.mono fun _ h => .inl h)).trans (hst9.mono fun q hq => .inr (by rw [hq, e1]; rfl)))
        clear f3' hBx9 hst9 hst8
        go_wp2_with fail
        go_roundw
        case rel => exact ⟨j + 1, hold1 s' o k wb mm, m - mm, _, by rw [hsb'.out], by omega, by go_num, rfl, hold1_right hr'.out hfit.out, hm'.out.held (Held.one hr'.out hfit.out) hmr.1, htg2.out, hBx9'.out, hst9'.out⟩
        case measure => simp [intOf]; omega
    · obtain rfl : j = (way p).length := by omega
      have hfin := Lib.hid (show (s', m) = takeS p s o k n but by rw [← htg'.out, List.drop_length]; rfl)
      have hsb' := Lib.hid hsb
      clear hr hm htg hBx hst hsb
      go_wp2_with fail
      go_ret
      exact ⟨ret_int (by rw [← hfin.out]), V', hsb'.out, by rw [← hfin.out]; exact hBx'.out, (Step.of_below hb01).trans hst'.out⟩
end Wh
namespace Wh
open Go Go.RowKit Go.Shelf Go.Proofs
attribute [local go_sem] run_indexAt_letter

set_option maxHeartbeats 8000000 in
set_option maxRecDepth 10000 in
theorem rWith (w : World) (v : Value) (l : List Hold) (o ln b n : Int) (hv : Sl cHold w w.heap.size v l) (hok : holdsOk l = true) (hkey : keyOk o ln b) :
    Calls Try.prog 109 #[v, .int .i64 o, .int .i64 ln, .int .i64 b, .int .i64 n] w (Gives (fun u w' => Own cHold 4 87 w' w.heap.size u (withHold l ⟨o, ln, b, n⟩)) w) := by
  obtain ⟨A, c, rfl, _, hA⟩ := hv
  obtain ⟨x, hx⟩ : ∃ x : Hold, x = ⟨o, ln, b, n⟩ := ⟨_, rfl⟩
  have hlen := ok_length hok
  have hkx : keyOk x.order x.line x.bin := by rw [hx]; exact hkey
  have hr := (holdsOk_iff.1 hok).2
  have hkl : ∀ k, k < l.length → keyOk (hold l k).order (hold l k).line (hold l k).bin := fun k hk => ok_key hok hk
  have ho : o = x.order := by rw [hx]
  have hln : ln = x.line := by rw [hx]
  have hbb : b = x.bin := by rw [hx]
  have hnn : n = x.n := by rw [hx]
  rw [← hx]
  subst ho hln hbb hnn
  have hb0 : Below w.heap.size w (w.alloc (.cells #[.int .i64 (x).order, .int .i64 (x).line, .int .i64 (x).bin, .int .i64 (x).n] 87)) := (Below.refl _ _).alloc (Nat.le_refl _) _
  have hkx' := Lib.hid hkx
  have hkl' := Lib.hid hkl
  have hr' := Lib.hid hr
  clear hx hkey hkx hkl hr hok
  go_enter Try.func109, Try.ntmps109
  go_wp2_with fail
  obtain ⟨W0, hW0⟩ : ∃ W0, W0 = w.alloc (.cells #[.int .i64 (x).order, .int .i64 (x).line, .int .i64 (x).bin, .int .i64 (x).n] 87) := ⟨_, rfl⟩
  have hWr : w.alloc (.cells #[.int .i64 (x).order, .int .i64 (x).line, .int .i64 (x).bin, .int .i64 (x).n] 87) = W0 := hW0.symm
  simp only [hWr] at hb0 ⊢
  have hF : ∀ W, Below W0.heap.size W0 W → ∀ k, k < l.length → (okA A ∧ ablk A < W.heap.size ∧ W.cell? ⟨ablk A, aoff A + k * 4, none⟩ = some (.int .i64 (hold l k).order) ∧ W.cell? ⟨ablk A, aoff A + k * 4 + 1, none⟩ = some (.int .i64 (hold l k).line) ∧
      W.cell? ⟨ablk A, aoff A + k * 4 + 2, none⟩ = some (.int .i64 (hold l k).bin) ∧ W.cell? ⟨ablk A, aoff A + k * 4 + 3, none⟩ = some (.int .i64 (hold l k).n)) := fun W hW k hk => by
    have hB := hb0.trans (hW.mono hb0.size)
    exact (hA.up hB hB.size).hold hk
  have hX : ∀ W, Below W0.heap.size W0 W → (w.heap.size < W.heap.size ∧ W.cell? ⟨w.heap.size, 0, none⟩ = some (.int .i64 x.order) ∧ W.cell? ⟨w.heap.size, 1, none⟩ = some (.int .i64 x.line) ∧ W.cell? ⟨w.heap.size, 2, none⟩ = some (.int .i64 x.bin) ∧ W.cell? ⟨w.heap.size, 3, none⟩ = some (.int .i64 x.n)) := fun W hW => by
    have hsz : w.heap.size < W0.heap.size := by rw [hW0]; simp
    exact ⟨Nat.lt_of_lt_of_le hsz hW.size, (hW.cell (p := ⟨w.heap.size, 0, none⟩) hsz).trans (by rw [hW0]; simp), (hW.cell (p := ⟨w.heap.size, 1, none⟩) hsz).trans (by rw [hW0]; simp), (hW.cell (p := ⟨w.heap.size, 2, none⟩) hsz).trans (by rw [hW0]; simp), (hW.cell (p := ⟨w.heap.size, 3, none⟩) hsz).trans (by rw [hW0]; simp)⟩
  have hF' := Lib.hid hF
  have hX' := Lib.hid hX
  have hbase : w.heap.size ≤ W0.heap.size := hb0.size
  clear hF hX hW0 hWr hA
  have hd0 : (x.n == 0) = doneTo l x 0 := by rw [(withTo_zero l x).2, Bool.eq_iff_iff]; simp
  rw [hd0]
  clear hd0
  go_loopw [12, 13, 14] (fun u d i wr => ∃ k : Nat, k ≤ l.length ∧ i = .int .i64 k ∧ d = .bool (doneTo l x k) ∧ Own cHold 4 87 wr W0.heap.size u (withTo l x k) ∧ Below W0.heap.size W0 wr) (fun _ _ i _ => l.length - (intOf i).toNat)
  case atStart => exact ⟨0, Nat.zero_le _, rfl, rfl, by rw [(withTo_zero l x).1]; exact Own.nil, Below.refl _ _⟩
  case round =>
    obtain ⟨k, hk, rfl, rfl, hown, hbw⟩ := hrel
    have hwl := withTo_length l x k
    by_cases hlt : k < l.length
    · have hwl1 := withTo_length l x (k + 1)
      obtain ⟨hAok, hAb, b0, b1, b2, b3⟩ := hF'.out wr hbw k hlt
      obtain ⟨hBz, y0, y1, y2, y3⟩ := hX'.out wr hbw
      have q0 := fun o d os => cells_wld (w := wr) (b := w.heap.size) hBz o d os
      have qA := fun o d os => cells_wld (w := wr) (b := ablk A) hAb o d os
      cases hd : doneTo l x k
      · rcases Int.lt_trichotomy (place (hold l k)) (place x) with hp | hp | hp
        · obtain ⟨hw1, hd1⟩ := with_less_step hr'.out hlt hp
          rw [hd] at hd1
          have hw1' := Lib.hid hw1
          have hd1' := Lib.hid hd1
          have hp1 : ¬ (place x ≤ place (hold l k)) := by omega
          have hnb : (place (hold l k) != place x) = true := by simp; omega
          clear hw1 hd1 hd hp
          go_wp2_with fail
          refine wp_region_wld (by kernel_rfl) (by kernel_rfl) ?_
          repeat (go_big_quiet_step ((go_at_call 113; refine calls_wld (rPlace _ _ (by first | exact hkx'.out | exact hkl'.out k hlt)))))
          refine wpQuiet_nil ?_
          intro W2 hw'
          have hb2 := below_of_cls hw'
          clear hw'
          have hbw2 := hbw.trans (hb2.mono hbw.size)
          have hown2 := hown.below hb2
          clear q0 qA b0 b1 b2 b3 y0 y1 y2 y3
          obtain ⟨hAok4, hAb4, b0, b1, b2, b3⟩ := hF'.out W2 hbw2 k hlt
          obtain ⟨hBz4, y0, y1, y2, y3⟩ := hX'.out W2 hbw2
          have q0 := fun o d os => cells_wld (w := W2) (b := w.heap.size) hBz4 o d os
          have qA := fun o d os => cells_wld (w := W2) (b := ablk A) hAb4 o d os
          go_wp2_with fail
          refine wp_region_wld (by kernel_rfl) (by kernel_rfl) ?_
          repeat (go_big_quiet_step ((go_at_call 113; refine calls_wld (rPlace _ _ (by first | exact hkx'.out | exact hkl'.out k hlt)))))
          refine wpQuiet_nil ?_
          intro W5 hw'
          have hb5 := below_of_cls hw'
          clear hw'
          have hbw5 := hbw2.trans (hb5.mono hbw2.size)
          have hown5 := hown2.below hb5
          clear q0 qA b0 b1 b2 b3 y0 y1 y2 y3
          obtain ⟨hAok6, hAb6, b0, b1, b2, b3⟩ := hF'.out W5 hbw5 k hlt
          go_wp2_with (at_builtin; refine Hid.out ?_)
          unfold Hid
          refine wpList_push _ rfl (.tmp 52) (.tmp 57) 28 87 rfl W0.heap.size _ 4 32 Try.underlying28 infoHold rfl (by decide) (by decide) _ (withTo l x k) (hold l k) rfl (hown5.alloc _) ⟨W5.heap.size, 0, none⟩ 1 rfl rfl (cells_new _ _ _) (oneHold _) (by omega) (by have := hbw5.size; simp; omega) ?_
          intro v7 w7 hown7 hg7 hat7 hbel7
          have hbw7 := (hbw5.alloc hbw5.size (.cells #[.int .i64 (hold l k).order, .int .i64 (hold l k).line, .int .i64 (hold l k).bin, .int .i64 (hold l k).n] 87)).trans hbel7
          go_wp2_with fail
          go_roundw
          case rel => exact ⟨k + 1, by omega, by go_num, by rw [hd1'.out], by rw [hw1'.out]; exact hown7, hbw7⟩
          case measure => simp [intOf]; omega
        · have hw1 := with_eq_new hlt hp hd
          have hd1 := done_at hlt (show place x ≤ place (hold l k) by omega)
          have hw1' := Lib.hid hw1
          have hd1' := Lib.hid hd1
          have hnb : (place (hold l k) != place x) = false := by simp; omega
          have hp1 : place x ≤ place (hold l k) := by omega
          clear hw1 hd1 hd hp
          go_wp2_with fail
          refine wp_region_wld (by kernel_rfl) (by kernel_rfl) ?_
          repeat (go_big_quiet_step ((go_at_call 113; refine calls_wld (rPlace _ _ (by first | exact hkx'.out | exact hkl'.out k hlt)))))
          refine wpQuiet_nil ?_
          intro W2 hw'
          have hb2 := below_of_cls hw'
          clear hw'
          have hbw2 := hbw.trans (hb2.mono hbw.size)
          have hown2 := hown.below hb2
          clear q0 qA b0 b1 b2 b3 y0 y1 y2 y3
          obtain ⟨hBz2, y0, y1, y2, y3⟩ := hX'.out W2 hbw2
          go_wp2_with (at_builtin; refine Hid.out ?_)
          unfold Hid
          refine wpList_push _ rfl (.tmp 40) (.tmp 42) 28 87 rfl W0.heap.size _ 4 32 Try.underlying28 infoHold rfl (by decide) (by decide) _ (withTo l x k) x rfl (hown2.alloc _) ⟨W2.heap.size, 0, none⟩ 1 rfl rfl (cells_new _ _ _) (oneHold x) (by omega) (by have := hbw2.size; simp; omega) ?_
          intro v3 w3 hown3 hg3 hat3 hbel3
          have hbw3 := (hbw2.alloc hbw2.size (.cells #[.int .i64 (x).order, .int .i64 (x).line, .int .i64 (x).bin, .int .i64 (x).n] 87)).trans hbel3
          clear y0 y1 y2 y3
          obtain ⟨hAok4, hAb4, b0, b1, b2, b3⟩ := hF'.out w3 hbw3 k hlt
          obtain ⟨hBz4, y0, y1, y2, y3⟩ := hX'.out w3 hbw3
          have q0 := fun o d os => cells_wld (w := w3) (b := w.heap.size) hBz4 o d os
          have qA := fun o d os => cells_wld (w := w3) (b := ablk A) hAb4 o d os
          go_wp2_with fail
          refine wp_region_wld (by kernel_rfl) (by kernel_rfl) ?_
          repeat (go_big_quiet_step ((go_at_call 113; refine calls_wld (rPlace _ _ (by first | exact hkx'.out | exact hkl'.out k hlt)))))
          refine wpQuiet_nil ?_
          intro W5 hw'
          have hb5 := below_of_cls hw'
          clear hw'
          have hbw5 := hbw3.trans (hb5.mono hbw3.size)
          have hown5 := hown3.below hb5
          clear q0 qA b0 b1 b2 b3 y0 y1 y2 y3
          go_wp2_with fail
          go_roundw
          case rel => exact ⟨k + 1, by omega, by go_num, by rw [hd1'.out], by rw [hw1'.out]; exact hown5, hbw5⟩
          case measure => simp [intOf]; omega
        · have hw1 := with_more_new hlt hp hd
          have hd1 := done_at hlt (show place x ≤ place (hold l k) by omega)
          have hwl2 : (withTo l x k ++ [x]).length ≤ 146 := by rw [List.length_append]; simp; omega
          have hw1' := Lib.hid hw1
          have hd1' := Lib.hid hd1
          have hp1 : place x ≤ place (hold l k) := by omega
          have hnb : (place (hold l k) != place x) = true := by simp; omega
          clear hw1 hd1 hd hp
          go_wp2_with fail
          refine wp_region_wld (by kernel_rfl) (by kernel_rfl) ?_
          repeat (go_big_quiet_step ((go_at_call 113; refine calls_wld (rPlace _ _ (by first | exact hkx'.out | exact hkl'.out k hlt)))))
          refine wpQuiet_nil ?_
          intro W2 hw'
          have hb2 := below_of_cls hw'
          clear hw'
          have hbw2 := hbw.trans (hb2.mono hbw.size)
          have hown2 := hown.below hb2
          clear q0 qA b0 b1 b2 b3 y0 y1 y2 y3
          obtain ⟨hBz2, y0, y1, y2, y3⟩ := hX'.out W2 hbw2
          go_wp2_with (at_builtin; refine Hid.out ?_)
          unfold Hid
          refine wpList_push _ rfl (.tmp 40) (.tmp 42) 28 87 rfl W0.heap.size _ 4 32 Try.underlying28 infoHold rfl (by decide) (by decide) _ (withTo l x k) x rfl (hown2.alloc _) ⟨W2.heap.size, 0, none⟩ 1 rfl rfl (cells_new _ _ _) (oneHold x) (by omega) (by have := hbw2.size; simp; omega) ?_
          intro v3 w3 hown3 hg3 hat3 hbel3
          have hbw3 := (hbw2.alloc hbw2.size (.cells #[.int .i64 (x).order, .int .i64 (x).line, .int .i64 (x).bin, .int .i64 (x).n] 87)).trans hbel3
          clear y0 y1 y2 y3
          obtain ⟨hAok4, hAb4, b0, b1, b2, b3⟩ := hF'.out w3 hbw3 k hlt
          obtain ⟨hBz4, y0, y1, y2, y3⟩ := hX'.out w3 hbw3
          have q0 := fun o d os => cells_wld (w := w3) (b := w.heap.size) hBz4 o d os
          have qA := fun o d os => cells_wld (w := w3) (b := ablk A) hAb4 o d os
          go_wp2_with fail
          refine wp_region_wld (by kernel_rfl) (by kernel_rfl) ?_
          repeat (go_big_quiet_step ((go_at_call 113; refine calls_wld (rPlace _ _ (by first | exact hkx'.out | exact hkl'.out k hlt)))))
          refine wpQuiet_nil ?_
          intro W5 hw'
          have hb5 := below_of_cls hw'
          clear hw'
          have hbw5 := hbw3.trans (hb5.mono hbw3.size)
          have hown5 := hown3.below hb5
          clear q0 qA b0 b1 b2 b3 y0 y1 y2 y3
          obtain ⟨hAok6, hAb6, b0, b1, b2, b3⟩ := hF'.out W5 hbw5 k hlt
          go_wp2_with (at_builtin; refine Hid.out ?_)
          unfold Hid
          refine wpList_push _ rfl (.tmp 52) (.tmp 57) 28 87 rfl W0.heap.size _ 4 32 Try.underlying28 infoHold rfl (by decide) (by decide) _ (withTo l x k ++ [x]) (hold l k) rfl (hown5.alloc _) ⟨W5.heap.size, 0, none⟩ 1 rfl rfl (cells_new _ _ _) (oneHold _) (by omega) (by have := hbw5.size; simp; omega) ?_
          intro v7 w7 hown7 hg7 hat7 hbel7
          have hbw7 := (hbw5.alloc hbw5.size (.cells #[.int .i64 (hold l k).order, .int .i64 (hold l k).line, .int .i64 (hold l k).bin, .int .i64 (hold l k).n] 87)).trans hbel7
          go_wp2_with fail
          go_roundw
          case rel => exact ⟨k + 1, by omega, by go_num, by rw [hd1'.out], by rw [hw1'.out]; exact hown7, hbw7⟩
          case measure => simp [intOf]; omega
      · rcases Int.lt_trichotomy (place (hold l k)) (place x) with hp | hp | hp
        · obtain ⟨hw1, hd1⟩ := with_less_step hr'.out hlt hp
          rw [hd] at hd1
          have hw1' := Lib.hid hw1
          have hd1' := Lib.hid hd1
          have hp1 : ¬ (place x ≤ place (hold l k)) := by omega
          have hnb : (place (hold l k) != place x) = true := by simp; omega
          clear hw1 hd1 hd hp
          go_wp2_with fail
          refine wp_region_wld (by kernel_rfl) (by kernel_rfl) ?_
          repeat (go_big_quiet_step ((go_at_call 113; refine calls_wld (rPlace _ _ (by first | exact hkx'.out | exact hkl'.out k hlt)))))
          refine wpQuiet_nil ?_
          intro W2 hw'
          have hb2 := below_of_cls hw'
          clear hw'
          have hbw2 := hbw.trans (hb2.mono hbw.size)
          have hown2 := hown.below hb2
          clear q0 qA b0 b1 b2 b3 y0 y1 y2 y3
          obtain ⟨hAok4, hAb4, b0, b1, b2, b3⟩ := hF'.out W2 hbw2 k hlt
          obtain ⟨hBz4, y0, y1, y2, y3⟩ := hX'.out W2 hbw2
          have q0 := fun o d os => cells_wld (w := W2) (b := w.heap.size) hBz4 o d os
          have qA := fun o d os => cells_wld (w := W2) (b := ablk A) hAb4 o d os
          go_wp2_with fail
          refine wp_region_wld (by kernel_rfl) (by kernel_rfl) ?_
          repeat (go_big_quiet_step ((go_at_call 113; refine calls_wld (rPlace _ _ (by first | exact hkx'.out | exact hkl'.out k hlt)))))
          refine wpQuiet_nil ?_
          intro W5 hw'
          have hb5 := below_of_cls hw'
          clear hw'
          have hbw5 := hbw2.trans (hb5.mono hbw2.size)
          have hown5 := hown2.below hb5
          clear q0 qA b0 b1 b2 b3 y0 y1 y2 y3
          obtain ⟨hAok6, hAb6, b0, b1, b2, b3⟩ := hF'.out W5 hbw5 k hlt
          go_wp2_with (at_builtin; refine Hid.out ?_)
          unfold Hid
          refine wpList_push _ rfl (.tmp 52) (.tmp 57) 28 87 rfl W0.heap.size _ 4 32 Try.underlying28 infoHold rfl (by decide) (by decide) _ (withTo l x k) (hold l k) rfl (hown5.alloc _) ⟨W5.heap.size, 0, none⟩ 1 rfl rfl (cells_new _ _ _) (oneHold _) (by omega) (by have := hbw5.size; simp; omega) ?_
          intro v7 w7 hown7 hg7 hat7 hbel7
          have hbw7 := (hbw5.alloc hbw5.size (.cells #[.int .i64 (hold l k).order, .int .i64 (hold l k).line, .int .i64 (hold l k).bin, .int .i64 (hold l k).n] 87)).trans hbel7
          go_wp2_with fail
          go_roundw
          case rel => exact ⟨k + 1, by omega, by go_num, by rw [hd1'.out], by rw [hw1'.out]; exact hown7, hbw7⟩
          case measure => simp [intOf]; omega
        · have hw1 := with_eq_old hr'.out hlt hp hd
          have hd1 := done_at hlt (show place x ≤ place (hold l k) by omega)
          have hw1' := Lib.hid hw1
          have hd1' := Lib.hid hd1
          have hnb : (place (hold l k) != place x) = false := by simp; omega
          have hp1 : place x ≤ place (hold l k) := by omega
          clear hw1 hd1 hd hp
          go_wp2_with fail
          refine wp_region_wld (by kernel_rfl) (by kernel_rfl) ?_
          repeat (go_big_quiet_step ((go_at_call 113; refine calls_wld (rPlace _ _ (by first | exact hkx'.out | exact hkl'.out k hlt)))))
          refine wpQuiet_nil ?_
          intro W2 hw'
          have hb2 := below_of_cls hw'
          clear hw'
          have hbw2 := hbw.trans (hb2.mono hbw.size)
          have hown2 := hown.below hb2
          clear q0 qA b0 b1 b2 b3 y0 y1 y2 y3
          obtain ⟨hAok4, hAb4, b0, b1, b2, b3⟩ := hF'.out W2 hbw2 k hlt
          obtain ⟨hBz4, y0, y1, y2, y3⟩ := hX'.out W2 hbw2
          have q0 := fun o d os => cells_wld (w := W2) (b := w.heap.size) hBz4 o d os
          have qA := fun o d os => cells_wld (w := W2) (b := ablk A) hAb4 o d os
          go_wp2_with fail
          refine wp_region_wld (by kernel_rfl) (by kernel_rfl) ?_
          repeat (go_big_quiet_step ((go_at_call 113; refine calls_wld (rPlace _ _ (by first | exact hkx'.out | exact hkl'.out k hlt)))))
          refine wpQuiet_nil ?_
          intro W5 hw'
          have hb5 := below_of_cls hw'
          clear hw'
          have hbw5 := hbw2.trans (hb5.mono hbw2.size)
          have hown5 := hown2.below hb5
          clear q0 qA b0 b1 b2 b3 y0 y1 y2 y3
          go_wp2_with fail
          go_roundw
          case rel => exact ⟨k + 1, by omega, by go_num, by rw [hd1'.out], by rw [hw1'.out]; exact hown5, hbw5⟩
          case measure => simp [intOf]; omega
        · have hw1 := with_more_old hlt hp hd
          have hd1 := done_at hlt (show place x ≤ place (hold l k) by omega)
          have hw1' := Lib.hid hw1
          have hd1' := Lib.hid hd1
          have hp1 : place x ≤ place (hold l k) := by omega
          have hnb : (place (hold l k) != place x) = true := by simp; omega
          clear hw1 hd1 hd hp
          go_wp2_with fail
          refine wp_region_wld (by kernel_rfl) (by kernel_rfl) ?_
          repeat (go_big_quiet_step ((go_at_call 113; refine calls_wld (rPlace _ _ (by first | exact hkx'.out | exact hkl'.out k hlt)))))
          refine wpQuiet_nil ?_
          intro W2 hw'
          have hb2 := below_of_cls hw'
          clear hw'
          have hbw2 := hbw.trans (hb2.mono hbw.size)
          have hown2 := hown.below hb2
          clear q0 qA b0 b1 b2 b3 y0 y1 y2 y3
          obtain ⟨hAok4, hAb4, b0, b1, b2, b3⟩ := hF'.out W2 hbw2 k hlt
          obtain ⟨hBz4, y0, y1, y2, y3⟩ := hX'.out W2 hbw2
          have q0 := fun o d os => cells_wld (w := W2) (b := w.heap.size) hBz4 o d os
          have qA := fun o d os => cells_wld (w := W2) (b := ablk A) hAb4 o d os
          go_wp2_with fail
          refine wp_region_wld (by kernel_rfl) (by kernel_rfl) ?_
          repeat (go_big_quiet_step ((go_at_call 113; refine calls_wld (rPlace _ _ (by first | exact hkx'.out | exact hkl'.out k hlt)))))
          refine wpQuiet_nil ?_
          intro W5 hw'
          have hb5 := below_of_cls hw'
          clear hw'
          have hbw5 := hbw2.trans (hb5.mono hbw2.size)
          have hown5 := hown2.below hb5
          clear q0 qA b0 b1 b2 b3 y0 y1 y2 y3
          obtain ⟨hAok6, hAb6, b0, b1, b2, b3⟩ := hF'.out W5 hbw5 k hlt
          go_wp2_with (at_builtin; refine Hid.out ?_)
          unfold Hid
          refine wpList_push _ rfl (.tmp 52) (.tmp 57) 28 87 rfl W0.heap.size _ 4 32 Try.underlying28 infoHold rfl (by decide) (by decide) _ (withTo l x k) (hold l k) rfl (hown5.alloc _) ⟨W5.heap.size, 0, none⟩ 1 rfl rfl (cells_new _ _ _) (oneHold _) (by omega) (by have := hbw5.size; simp; omega) ?_
          intro v7 w7 hown7 hg7 hat7 hbel7
          have hbw7 := (hbw5.alloc hbw5.size (.cells #[.int .i64 (hold l k).order, .int .i64 (hold l k).line, .int .i64 (hold l k).bin, .int .i64 (hold l k).n] 87)).trans hbel7
          go_wp2_with fail
          go_roundw
          case rel => exact ⟨k + 1, by omega, by go_num, by rw [hd1'.out], by rw [hw1'.out]; exact hown7, hbw7⟩
          case measure => simp [intOf]; omega
    · obtain rfl : k = l.length := by omega
      obtain ⟨hBz, y0, y1, y2, y3⟩ := hX'.out wr hbw
      cases hd : doneTo l x l.length
      · have hfin := Lib.hid (with_end_new hd)
        clear hd
        go_wp2_with (at_builtin; refine Hid.out ?_)
        unfold Hid
        refine wpList_push _ rfl (.tmp 61) (.tmp 63) 28 87 rfl W0.heap.size _ 4 32 Try.underlying28 infoHold rfl (by decide) (by decide) _ (withTo l x l.length) x rfl (hown.alloc _) ⟨wr.heap.size, 0, none⟩ 1 rfl rfl (cells_new _ _ _) (oneHold x) (by omega) (by have := hbw.size; simp; omega) ?_
        intro v9 w9 hown9 hg9 hat9 hbel9
        go_wp2_with fail
        go_ret
        refine ⟨_, rfl, ?_, hb0.trans (((hbw.alloc hbw.size (.cells #[.int .i64 (x).order, .int .i64 (x).line, .int .i64 (x).bin, .int .i64 (x).n] 87)).trans hbel9).mono hbase)⟩
        rw [hfin.out]
        exact hown9.from_ hbase
      · have hfin := Lib.hid (with_end_old hd)
        clear hd
        go_wp2_with fail
        go_ret
        refine ⟨_, rfl, ?_, hb0.trans (hbw.mono hbase)⟩
        rw [hfin.out]
        exact hown.from_ hbase

end Wh
namespace Wh
open Go Go.RowKit Go.Shelf Go.Proofs
attribute [local go_sem] run_indexAt_letter evL_tmp evL_const evL_func

theorem boxesOwn {w : World} {base : Nat} {V : SV} {s : State} (p : Plan) (Ab : Option Addr) (cb : Nat) (As : Option Addr) (cs : Nat) (ho : OwnSt w base V s) :
    ∃ W0 : World, ((w.alloc (.cells #[.slice Ab p.bins.length cb, .slice As p.sizes.length cs] 25)).alloc (.cells #[V.on, V.orders, V.holds, V.moves, V.inn, V.out, V.fixed] 31)).alloc (.cells #[.slice none 0 0, .slice none 0 0, .slice none 0 0, .slice none 0 0, .slice none 0 0, .slice none 0 0, .slice none 0 0] 31) = W0 ∧ Below w.heap.size w W0 ∧
      W0.heap.size = w.heap.size + 1 + 1 + 1 ∧ Blk W0 w.heap.size 25 [.slice Ab p.bins.length cb, .slice As p.sizes.length cs] ∧ Bx W0 base (w.heap.size + 1) 31 [] V s ∧ BoxAt W0 (w.heap.size + 1 + 1) nilSV := by
  have hb1 : Below w.heap.size w (w.alloc (.cells #[.slice Ab p.bins.length cb, .slice As p.sizes.length cs] 25)) := (Below.refl _ _).alloc (Nat.le_refl _) _
  have h1 : Blk (w.alloc (.cells #[.slice Ab p.bins.length cb, .slice As p.sizes.length cs] 25)) w.heap.size 25 [.slice Ab p.bins.length cb, .slice As p.sizes.length cs] := Blk.new _ _ _
  have h2 := Blk.new (w.alloc (.cells #[.slice Ab p.bins.length cb, .slice As p.sizes.length cs] 25)) 31 #[V.on, V.orders, V.holds, V.moves, V.inn, V.out, V.fixed]
  rw [World.size_alloc] at h2
  have h3 := Blk.new ((w.alloc (.cells #[.slice Ab p.bins.length cb, .slice As p.sizes.length cs] 25)).alloc (.cells #[V.on, V.orders, V.holds, V.moves, V.inn, V.out, V.fixed] 31)) 31 #[.slice none 0 0, .slice none 0 0, .slice none 0 0, .slice none 0 0, .slice none 0 0, .slice none 0 0, .slice none 0 0]
  rw [World.size_alloc, World.size_alloc] at h3
  refine ⟨_, rfl, (hb1.alloc (by simp) _).alloc (by simp; omega) _, by simp, (h1.alloc _).alloc _, Bx.of (h2.alloc _) (((ho.below hb1).alloc _).alloc _), h3⟩

/-- What the reference's holding does. -/
def TakePost (p : Plan) (s : State) (o k : Nat) (n but : Int) (w : World) (base : Nat) (V : SV) (e : Ending) (w' : World) : Prop :=
  ∃ V', V' = { V with holds := V'.holds } ∧ e = .returned (.tuple #[V'.val, .int .i64 (takeS p s o k n but).2]) ∧ OwnSt w' base V' (takeS p s o k n but).1 ∧ Step (fun j => (V.line o).ownBlock = some j) w w'

set_option maxHeartbeats 8000000 in
set_option maxRecDepth 100000 in
theorem rTake (w : World) (v : Value) (p : Plan) (s : State) (o k : Nat) (n but : Int) {base : Nat} {V : SV} (hp : PlanV w w.heap.size v p) (hr : Right p s) (hm : May s o k n) (ho : OwnSt w base V s) (hbase : base ≤ w.heap.size) :
    Calls Try.prog 77 #[v, V.val, .int .i64 o, .int .i64 k, .int .i64 n, .int .i64 but] w (TakePost p s o k n but w base V) := by
  obtain ⟨Ab, cb, As, cs, rfl, hP', hBn, hSz, hlb, hls⟩ := openPl hp
  change Calls Try.prog 77 #[.agg #[.slice Ab p.bins.length cb, .slice As p.sizes.length cs], .agg #[V.on, V.orders, V.holds, V.moves, V.inn, V.out, V.fixed], .int .i64 o, .int .i64 k, .int .i64 n, .int .i64 but] w _
  obtain ⟨gl, cl, curl, e1, hgl, hblk, _⟩ := ho.lineAt hm.ho hm.hk
  have hll := hblk.lt
  go_enter Try.func77, Try.ntmps77
  go_wp2_with fail
  obtain ⟨W0, hW0, hb0, hsE, hpl, hB0, hres⟩ := boxesOwn p Ab cb As cs ho
  rw [hW0]
  clear hW0 hblk
  have y0 := hpl.cell (j := 0) rfl
  have y1 := hpl.cell (j := 1) rfl
  go_wp2_with fail
  refine (rWayOf _ _ p (hP'.out _ hb0) (by have := hr.sane.counts; omega)).mono ?_
  rintro e W1 ⟨uw, rfl, hway, h1⟩
  obtain ⟨Aw, cw, rfl⟩ := hway.isSlice
  rw [nats_length] at hway ⊢
  have hB1 := Lib.hid (hB0.below h1)
  obtain ⟨hgl1, f0, _, _, _⟩ := hB1.out.own.lineCells hm.ho hm.hk e1
  obtain ⟨go, co, curo, eo, hgo, hblko, z0, z1⟩ := hB1.out.own.orderAt hm.ho
  obtain ⟨c0, c1, c2, c3, c4, c5, c6⟩ := hB1.out.cells
  rw [eo] at c1
  rw [e1] at z1
  have hon : (o : Int) < (s.orders.length : Int) := by have := hm.ho; omega
  have hkn : (k : Int) < ((s.order o).lines.length : Int) := by have := hm.hk; omega
  have hm' := Lib.hid hm
  have hr' := Lib.hid hr
  have hway' := Lib.hid hway
  have hres1 := Lib.hid (hres.below h1 hres.lt)
  have hlw : (way p).length ≤ 6 := by rw [way_length]; exact hr.sane.counts.2.1
  have hl0 := h1.size
  clear hm hr hway hB0 y0 y1 hP' hBn hSz hpl hres
  go_wp2_with fail
  clear c0 c1 c2 c3 c4 c5 c6 z0 z1 f0 hgl1 eo hblko
  go_loopw [16, 4, 17, 18] (fun i n' _ _ wr => ∃ (j : Nat) (s' : State) (m : Int) (V' : SV), V' = { V with holds := V'.holds } ∧ j ≤ (way p).length ∧ i = .int .i64 j ∧ n' = .int .i64 m ∧ Right p s' ∧ May s' o k m ∧ takeGo o k but ((way p).drop j) s' m = takeS p s o k n but ∧
    Bx wr base (w.heap.size + 1) 31 [] V' s' ∧ (s'.line o k).good = (s.line o k).good ∧ Step (fun j => j = w.heap.size + 1 ∨ (V.line o).ownBlock = some j) W1 wr) (fun i _ _ _ _ => (way p).length - (intOf i).toNat)
  case atStart => exact ⟨0, s, n, V, rfl, Nat.zero_le _, rfl, rfl, hr'.out, hm'.out, rfl, hB1.out, rfl, Step.refl _ _⟩
  case round =>
    clear hr' hm' hB1
    obtain ⟨j, s', m, V', hsb, hj, rfl, rfl, hr, hm, htg, hBx, hgd, hst⟩ := hrel
    have hr' := Lib.hid hr
    have hm' := Lib.hid hm
    have htg' := Lib.hid htg
    have hBx' := Lib.hid hBx
    have hst' := Lib.hid hst
    have hgd' := Lib.hid hgd
    have hks := Lib.hid (show ∀ j, (j = w.heap.size + 1 ∨ (V.line o).ownBlock = some j) → j ≤ w.heap.size + 1 from fun j h => by
      rcases h with rfl | h
      · omega
      · rw [e1] at h
        change some gl = some j at h
        injection h with h
        omega)
    by_cases hlt : j < (way p).length
    · have hwb := way_bins p _ (List.getElem_mem hlt)
      have hwr := hway'.out.step hst (fun k hk hks' => absurd (hks.out k hks') (by have := (hway'.out.size k hk).1; omega))
      obtain ⟨gw, cw', curw, ew, hgw, hbw, zw⟩ := OwnSt.intAtOwn hwr (g := j) (by rw [nats_length]; exact hlt)
      rw [nats_at hlt] at zw
      obtain ⟨wb, hwbe⟩ : ∃ x, x = (way p)[j] := ⟨_, rfl⟩
      rw [← hwbe] at zw hwb
      have hwbe' := Lib.hid hwbe
      clear hwbe
      obtain rfl : Aw = some ⟨gw, 0, none⟩ := by injection ew
      clear ew
      have hgood := Lib.hid (hr.sane.line hm.ho hm.hk)
      have hjl : (j : Int) < ((way p).length : Int) := by omega
      have hr2 := Lib.hid hr.sane
      have hbb := Lib.hid (show 0 ≤ (wb : Int) ∧ (wb : Int) < p.bins.length by omega)
      have hsb' := Lib.hid hsb
      have hdr : takeGo o k but (wb :: (way p).drop (j + 1)) s' m = takeS p s o k n but := by rw [hwbe'.out, ← drop_at hlt]; exact htg'.out
      have hdr' := Lib.hid hdr
      obtain ⟨c0, c1, c2, c3, c4, c5, c6⟩ := hBx.cells
      clear hr hm htg hBx hst hwr hbw hsb hdr hgd
      by_cases hbut : (wb : Int) = but
      · have hq : ((wb : Int) == but) = true := by simpa using hbut
        have htg2 := Lib.hid (show takeGo o k but ((way p).drop (j + 1)) s' m = takeS p s o k n but by rw [← hdr'.out, takeGo_skip (.inl hbut)])
        clear hbut
        go_wp2_with fail
        go_roundw
        case rel => exact ⟨j + 1, s', m, V', hsb'.out, by omega, by go_num, rfl, hr'.out, hm'.out, htg2.out, hBx'.out, hgd'.out, hst'.out⟩
        case measure => simp [intOf]; omega
      · have hq : ((wb : Int) == but) = false := by simpa using hbut
        have hbut' := Lib.hid hbut
        clear hbut
        go_wp2_with fail
        clear c0 c1 c2 c3 c4 c5 c6 zw
        refine (rAvailOf _ _ p s' wb (s.line o k).good (hBx'.out.own.view hr2.out) hr2.out hbb.out (by rw [← hgd'.out]; exact hgood.out.1)).mono ?_
        rintro e W6 ⟨rfl, hb6⟩
        obtain ⟨mm, hmm⟩ : ∃ x, (if avail s' ↑wb (s.line o k).good < m then avail s' ↑wb (s.line o k).good else m) = x := ⟨_, rfl⟩
        have hmin : mm = min m (avail s' wb (s'.line o k).good) := by rw [← hmm, hgd'.out]; split <;> omega
        have hav := hm'.out.avail hr'.out hwb
        have hmb := hm'.out.back
        have hm0 := hm'.out.n0
        have hgb := hgood.out
        have hmr : mm ≤ m ∧ m ≤ 200 ∧ 0 ≤ mm ∧ mm ≤ avail s' wb (s'.line o k).good := by omega
        have hbr : 0 ≤ (s'.line o k).back ∧ (s'.line o k).back ≤ 200 := by omega
        have hst6 := Lib.hid (hst'.out.trans (.of_below hb6))
        have hBx6 := Lib.hid (hBx'.out.below hb6)
        have hmin' := Lib.hid hmin
        have hmr' := Lib.hid hmr
        clear hmin hav hmb hm0 hgb hmr
        by_cases hge : 1 ≤ mm
        · have hge0 : 0 < mm := by omega
          have hfit := Lib.hid (hm'.out.fits hwb hge hmr'.out.1 hmr'.out.2.2.2)
          have htg2 := Lib.hid (show takeGo o k but ((way p).drop (j + 1)) (hold1 s' o k wb mm) (m - mm) = takeS p s o k n but by rw [← hdr'.out, takeGo_one hbut'.out (by rw [← hmin'.out]; exact hge), ← hmin'.out])
          have hlen := ok_len72 hr2.out.holds
          have hble : base ≤ W6.heap.size := Nat.le_trans hbase (Nat.le_trans hb0.size (Nat.le_trans hl0 (Nat.le_trans hst'.out.size hb6.size)))
          have hkr := fits_kept hr'.out hfit.out
          have hw0 : IntKind.i64.wrap (keptAt s'.holds o k wb + mm) = keptAt s'.holds o k wb + mm := IntWalk.i64_in _ (by omega)
          go_wp2_with fail
          clear hmm
          refine wp_region_ops 15 [fun gq _ => gq 52 = .pointer (some ⟨w.heap.size + 1, 2, none⟩), fun gq _ => gq 53 = V'.holds, fun gq _ => gq 54 = .int .i64 o, fun gq _ => gq 55 = .int .i64 k, fun gq _ => gq 56 = .int .i64 wb, fun gq _ => gq 57 = .pointer (some ⟨w.heap.size + 1, 2, none⟩), fun gq _ => gq 58 = V'.holds, fun gq _ => gq 59 = .int .i64 o, fun gq _ => gq 60 = .int .i64 k, fun gq _ => gq 61 = .int .i64 wb, fun gq w' => (fun v w' => v = .int .i64 (keptAt s'.holds o k wb)) (gq 62) w', fun gq _ => gq 63 = .int .i64 mm, fun gq _ => gq 64 = .int .i64 (keptAt s'.holds o k wb + mm), fun gq w' => (fun v w' => Own cHold 4 87 w' W6.heap.size v (hold1 s' o k wb mm).holds) (gq 65) w', fun gq _ => gq 66 = .pointer (some ⟨w.heap.size + 1, 2, none⟩)] (by kernel_rfl) (by kernel_rfl) rfl (by kernel_rfl) ?_ (fun f w2 hb2 hR => ?_)
          simp only [List.take_succ_cons, List.take_zero]
          refine OpsOK.cons (OpOK.val rfl rfl (fun gq w' hb ho hd => ?_)) ?_
          · have e7 := ho 7 rfl
            go_simp
          refine OpsOK.cons (OpOK.val rfl rfl (fun gq w' hb ho hd => ?_)) ?_
          · have e52 : gq 52 = .pointer (some ⟨w.heap.size + 1, 2, none⟩) := hd ⟨0, .data⟩ (by simp) rfl (by decide)
            have x2 := (hBx6.out.below hb).cells.2.2.1
            go_simp
          refine OpsOK.cons (OpOK.val rfl rfl (fun gq w' hb ho hd => ?_)) ?_
          · have e2 := ho 2 rfl
            go_simp
          refine OpsOK.cons (OpOK.val rfl rfl (fun gq w' hb ho hd => ?_)) ?_
          · have e3 := ho 3 rfl
            go_simp
          refine OpsOK.cons (OpOK.val rfl rfl (fun gq w' hb ho hd => ?_)) ?_
          · have e17 := ho 17 rfl
            go_simp
          refine OpsOK.cons (OpOK.val rfl rfl (fun gq w' hb ho hd => ?_)) ?_
          · have e7 := ho 7 rfl
            go_simp
          refine OpsOK.cons (OpOK.val rfl rfl (fun gq w' hb ho hd => ?_)) ?_
          · have e57 : gq 57 = .pointer (some ⟨w.heap.size + 1, 2, none⟩) := hd ⟨5, .data⟩ (by simp) rfl (by decide)
            have x2 := (hBx6.out.below hb).cells.2.2.1
            go_simp
          refine OpsOK.cons (OpOK.val rfl rfl (fun gq w' hb ho hd => ?_)) ?_
          · have e2 := ho 2 rfl
            go_simp
          refine OpsOK.cons (OpOK.val rfl rfl (fun gq w' hb ho hd => ?_)) ?_
          · have e3 := ho 3 rfl
            go_simp
          refine OpsOK.cons (OpOK.val rfl rfl (fun gq w' hb ho hd => ?_)) ?_
          · have e17 := ho 17 rfl
            go_simp
          refine OpsOK.cons (OpOK.one (d := 62) (p := (fun v w' => v = .int .i64 (keptAt s'.holds o k wb))) rfl rfl (fun v w1 w2 h hb => h) (fun gq w' hb ho hd => ?_)) ?_
          · have e58 : gq 58 = V'.holds := hd ⟨6, .data⟩ (by simp) rfl (by decide)
            have e59 : gq 59 = .int .i64 o := hd ⟨7, .data⟩ (by simp) rfl (by decide)
            have e60 : gq 60 = .int .i64 k := hd ⟨8, .data⟩ (by simp) rfl (by decide)
            have e61 : gq 61 = .int .i64 wb := hd ⟨9, .data⟩ (by simp) rfl (by decide)
            have hs := (hBx6.out.below hb).own.holds.sl (by omega)
            unfold OpRel
            go_simp
            refine (rKeptAt w' _ s'.holds o k wb hs).mono ?_
            rintro e w2 ⟨rfl, rfl⟩
            exact ⟨_, rfl, rfl, Below.refl _ _⟩
          refine OpsOK.cons (OpOK.val rfl rfl (fun gq w' hb ho hd => ?_)) ?_
          · have e18 := ho 18 rfl
            go_simp
          refine OpsOK.cons (OpOK.val rfl rfl (fun gq w' hb ho hd => ?_)) ?_
          · have e62 : (gq 62) = .int .i64 (keptAt s'.holds o k wb) := hd ⟨10, .data⟩ (by simp) rfl (by decide)
            have e63 : gq 63 = .int .i64 mm := hd ⟨11, .data⟩ (by simp) rfl (by decide)
            go_simp
          refine OpsOK.cons (OpOK.one (d := 65) (p := (fun v w' => Own cHold 4 87 w' W6.heap.size v (hold1 s' o k wb mm).holds)) rfl rfl (fun v w1 w2 h hb => h.below hb) (fun gq w' hb ho hd => ?_)) ?_
          · have e53 : gq 53 = V'.holds := hd ⟨1, .data⟩ (by simp) rfl (by decide)
            have e54 : gq 54 = .int .i64 o := hd ⟨2, .data⟩ (by simp) rfl (by decide)
            have e55 : gq 55 = .int .i64 k := hd ⟨3, .data⟩ (by simp) rfl (by decide)
            have e56 : gq 56 = .int .i64 wb := hd ⟨4, .data⟩ (by simp) rfl (by decide)
            have e64 : gq 64 = .int .i64 (keptAt s'.holds o k wb + mm) := hd ⟨12, .data⟩ (by simp) rfl (by decide)
            have hs := (hBx6.out.below hb).own.holds.sl (by omega)
            unfold OpRel
            go_simp
            refine (rWith w' _ s'.holds o k wb _ hs hr2.out.holds (key_of hr2.out hm'.out.ho hm'.out.hk hwb)).mono ?_
            rintro e w2 ⟨u, rfl, hu, hb2⟩
            exact ⟨u, rfl, hu.from_ hb.size, hb2⟩
          refine OpsOK.cons (OpOK.val rfl rfl (fun gq w' hb ho hd => ?_)) ?_
          · have e7 := ho 7 rfl
            go_simp
          exact OpsOK.nil
          obtain ⟨r52, r53, r54, r55, r56, r57, r58, r59, r60, r61, r62, r63, r64, r65, r66, _⟩ := hR
          replace r62 : (f 62) = .int .i64 (keptAt s'.holds o k wb) := r62
          replace r65 : Own cHold 4 87 w2 W6.heap.size (f 65) (hold1 s' o k wb mm).holds := r65
          simp only [fillA, fillT, List.take_succ_cons, List.take_zero, List.drop_succ_cons, List.drop_zero, List.filterMap_cons, List.filterMap_nil, List.foldl_cons, List.foldl_nil, List.setIfInBounds_toArray, List.set_cons_zero, List.set_cons_succ, r52, r53, r54, r55, r56, r57, r58, r59, r60, r61, r62, r63, r64, r66]
          clear r52 r53 r54 r55 r56 r57 r58 r59 r60 r61 r62 r63 r64 r66
          obtain ⟨A7, c7, hv7⟩ := r65.isSlice
          rw [hv7] at r65
          simp only [hv7]
          have hBx7 := Lib.hid (hBx6.out.below hb2)
          have hu7 := Lib.hid (r65.from_ hble)
          clear r65 hv7
          refine wp_st_holds rfl (.tmp 66) (.tmp 65) rfl rfl A7 _ c7 _ hBx7.out rfl rfl hu7.out (fun w8 hBx8 hst8 => ?_)
          refine wpList_nil ?_
          have hv8 : V'.line o = .slice (some ⟨gl, 0, none⟩) (s.order o).lines.length cl := by rw [hsb'.out]; exact e1
          obtain ⟨hgll8, f0, f1, f2, f3⟩ := hBx8.own.lineCells (s := { s' with holds := (hold1 s' o k wb mm).holds }) hm'.out.ho hm'.out.hk hv8
          obtain ⟨go8, co8, curo8, eo8, hgo8, hblko8, z0, z1⟩ := hBx8.own.orderAt (s := { s' with holds := (hold1 s' o k wb mm).holds }) hm'.out.ho
          obtain ⟨c0, c1, c2, c3, c4, c5, c6⟩ := hBx8.cells
          rw [eo8] at c1
          have z1' : w8.cell? ⟨go8, o * 2 + 1, none⟩ = some (V'.line o) := z1
          rw [hv8] at z1'
          have hon8 : (o : Int) < (s'.orders.length : Int) := by have := hm'.out.ho; omega
          have hkn8 : (k : Int) < ((s.order o).lines.length : Int) := by omega
          have hBx8' := Lib.hid hBx8
          have hw1 : IntKind.i64.wrap ((s'.line o k).back - mm) = (s'.line o k).back - mm := IntWalk.i64_in _ (by omega)
          have hw2 : IntKind.i64.wrap (m - mm) = m - mm := IntWalk.i64_in _ (by have := hmr'.out; omega)
          have f3' : w8.cell? ⟨gl, k * 4 + 3, none⟩ = some (.int .i64 (s'.line o k).back) := f3
          have hv8' := Lib.hid hv8
          clear hBx8 f0 f1 f2 f3 z0 z1 c0 c2 c3 c4 c5 c6 eo8 hblko8 hv8 hw0
          go_wp2_with fail
          go_still_tail 21, (by kernel_rfl)
          change wpList _ _ _ _ _ w8.drew
          refine wp_st_line rfl (.tmp 87) (.tmp 85) rfl rfl (j := 3) (y := { s'.line o k with back := (s'.line o k).back - mm }) hBx8'.out.drew hm'.out.ho hm'.out.hk hv8'.out (by decide) rfl rfl rfl (fun w9 hBx9 hst9 => ?_)
          refine wpList_nil ?_
          have hBx9' := Lib.hid (show Bx w9 base (w.heap.size + 1) 31 [] { V' with holds := .slice A7 (hold1 s' o k wb mm).holds.length c7 } (hold1 s' o k wb mm) from hBx9)
          have hst9' := Lib.hid (((hst6.out.trans (.of_below hb2)).trans (hst8.mono fun _ h => .inl h)).trans ((Step.of_below (Below.refl _ _).drew).trans (hst9.mono fun q hq => .inr (by rw [hq, e1]; rfl))))
          have hgd9 := Lib.hid (show ((hold1 s' o k wb mm).line o k).good = (s.line o k).good by rw [(hold1_fixedLine hfit.out o k).1]; exact hgd'.out)
          clear f3' hBx9 hst9 hst8 c1 z1'
          go_wp2_with fail
          go_roundw
          case rel => exact ⟨j + 1, hold1 s' o k wb mm, m - mm, _, show _ = _ by rw [hsb'.out], by omega, by go_num, rfl, hold1_right hr'.out hfit.out, hm'.out.held (Held.one hr'.out hfit.out) hmr'.out.1, htg2.out, hBx9'.out, hgd9.out, hst9'.out⟩
          case measure => simp [intOf]; omega
        · have hle0 : ¬ 0 < mm := by omega
          have htg2 := Lib.hid (show takeGo o k but ((way p).drop (j + 1)) s' m = takeS p s o k n but by rw [← hdr'.out, takeGo_skip (.inr (by rw [← hmin'.out]; omega))])
          clear hge
          go_wp2_with fail
          clear hmm
          go_roundw
          case rel => exact ⟨j + 1, s', m, V', hsb'.out, by omega, by go_num, rfl, hr'.out, hm'.out, htg2.out, hBx6.out, hgd'.out, hst6.out⟩
          case measure => simp [intOf]; omega
    · obtain rfl : j = (way p).length := by omega
      have hfin := Lib.hid (show (s', m) = takeS p s o k n but by rw [← htg'.out, List.drop_length]; rfl)
      have hsb' := Lib.hid hsb
      obtain ⟨c0, c1, c2, c3, c4, c5, c6⟩ := hBx.cells
      have hres9 : BoxAt wr (w.heap.size + 1 + 1) nilSV := hst.blk hres1.out.blk (fun h => by have := hks.out _ h; omega)
      have hone := hBx.own.one
      clear hr hm htg hBx hst hsb
      go_wp2_with (refine wpList_store_state rfl (.tmp 12) (.tmp 91) rfl rfl (w.heap.size + 1 + 1) nilSV V' hres9 rfl rfl hone (fun w9 hbox9 hg9 => ?_))
      have hO9 := hBx'.out.own.keptBy hg9 hres9.blk (by decide) (by decide) (by decide) (by decide) (by decide) (by decide)
      obtain ⟨p0, p1, p2, p3, p4, p5, p6⟩ := hbox9.cells
      have hfin9 : Step (fun j => (V.line o).ownBlock = some j) w w9 :=
        ((Step.of_below (hb0.trans (h1.mono hb0.size))).trans' hst'.out (fun q hq h => h.resolve_left (by omega))).trans' (Step.of_grown (ks := fun q => q = w.heap.size + 1 + 1) hg9 (fun q hq => by injection hq with hq; exact hq.symm)) (fun q hq h => by omega)
      clear c0 c1 c2 c3 c4 c5 c6
      go_wp2_with fail
      exact bodyPost_ret (v := .tuple #[V'.val, .int .i64 m]) (by simp [results, Try.results77, go_sem, SV.val, p0, p1, p2, p3, p4, p5, p6]) rfl ⟨V', hsb'.out, by rw [← hfin.out], by rw [← hfin.out]; exact hO9, hfin9⟩
end Wh
