/- plan.Way: walk -/
import Derived.Test.YteafeopekfhnnaaWalkS
import Derived.Test.YteafeopekfhnnaaWalkD
namespace Wh
open Go Go.RowKit Go.Shelf Go.Proofs
attribute [local go_sem] run_indexAt_letter
attribute [local go_sem] Oper.semAt_some

/-- These blocks lie as they are given. -/
def Held (L : List (Nat × Obj)) (W : World) : Prop := ∀ x ∈ L, W.heap[x.1]? = some x.2
theorem Held.lt {L : List (Nat × Obj)} {W : World} (h : Held L W) : ∀ x ∈ L, x.1 < W.heap.size := fun x hx => (Array.getElem?_eq_some_iff.1 (h x hx)).1
theorem Held.grown {L : List (Nat × Obj)} {W W' : World} {row : Option Nat} (h : Held L W) (hg : W.grownBy W' row) (hne : ∀ x ∈ L, some x.1 ≠ row) : Held L W' := fun x hx => (hg.block x.1 (h.lt x hx) (hne x hx)).trans (h x hx)
theorem Held.alloc {L : List (Nat × Obj)} {W : World} (h : Held L W) (o : Obj) : Held L (W.alloc o) := h.grown (World.grownBy_alloc W o none) (fun _ _ e => by cases e)
theorem Held.setCell {L : List (Nat × Obj)} {W : World} (h : Held L W) (B : Nat) (u : Value) (hne : ∀ x ∈ L, x.1 ≠ B) : Held L (W.setCell ⟨B, 0, none⟩ u) := h.grown (grownBy_setCell' W B u) (fun x hx e => hne x hx (by cases e; rfl))
theorem Held.not_row {L : List (Nat × Obj)} {W : World} {e : TypeId} (h : Held L W) (ht : ∀ x ∈ L, ∀ cs sp, x.2 ≠ .cells cs e sp) {base size k : Nat} {v : Value} {xs : List Value} (hr : W.ownsRow base e size v k xs) : ∀ x ∈ L, some x.1 ≠ v.ownBlock := by
  intro x hx
  rcases hr.2 with ⟨rfl, _⟩ | ⟨g, cap, cur, rfl, _, hgb, _⟩
  · simp [Value.ownBlock]
  · intro e'
    obtain ⟨i, o⟩ := x
    obtain rfl : i = g := by simpa [Value.ownBlock] using e'
    have h1 := h _ hx
    simp only at h1
    rw [hgb] at h1
    exact ht _ hx _ _ (Option.some.inj h1).symm
theorem Held.from_ {β : Type} {B : Nat} {L : List (Nat × Obj)} (hB : ∀ x ∈ L, x.1 < B) : OwnFrom B (fun (_ : β) W => Held L W) := fun _ _ _ _ hs hg hr => hs.grown hg (fun x hx e => by
  have := (hr x.1 e.symm).1
  have := hB x hx
  omega)
theorem cell_of_heap {W : World} {B j : Nat} {vs : Array Value} {t : TypeId} {v : Value} (h : W.heap[B]? = some (.cells vs t (0, 0))) (hj : vs[j]? = some v) : W.cell? ⟨B, j, none⟩ = some v := by
  simp [World.cell?, h, hj]
theorem heap_alloc_old {W : World} {o : Obj} {B : Nat} (h : B < W.heap.size) : (W.alloc o).heap[B]? = W.heap[B]? := Below.heap_alloc W o B h
theorem heap_alloc_at {W : World} {o : Obj} {B : Nat} (h : B = W.heap.size) : (W.alloc o).heap[B]? = some o := by
  subst h
  exact World.alloc_heap_new W o
theorem cell_lt' {w : World} {a : Addr} {v : Value} (h : w.cell? a = some v) : a.block < w.heap.size := by
  by_cases hlt : a.block < w.heap.size
  · exact hlt
  · unfold World.cell? at h
    rw [Array.getElem?_eq_none (by omega)] at h
    simp at h

def outI (n₀ Bo : Nat) (pre0 : List Nat) (L : List (Nat × Obj)) (W0 : World) (pre : List Nat) (W : World) : Prop :=
  ((∃ u, Boxed W Bo 23 u ∧ Own cInt 1 3 W n₀ u (nats (pre0 ++ pre)) ∧ True) ∧ Held L W) ∧ Below n₀ W0 W

set_option maxRecDepth 100000 in
set_option maxHeartbeats 4000000 in
theorem wayLoop (Q : Exit → Act → World → Prop) (ds : List Deferred) (W0 : World) (Bo Bp Bf n₀ : Nat) (u : Value) (pre0 : List Nat) (L : List (Nat × Obj)) (p : Plan) (f : Bool) (Ab As : Option Addr) (cb cs : Nat) (hlb : p.bins.length ≤ 6) (hl0 : pre0.length ≤ 6)
    (t0 t1 t2 t3 t4 t6 t7 t8 t9 t10 t11 t12 t13 t14 t15 t16 t17 t18 t19 t20 t21 t23 t24 t25 t26 t27 t28 t29 : Value) (hn0 : n₀ ≤ W0.heap.size) (hBo : n₀ ≤ Bo)
    (hp0 : W0.cell? ⟨Bp, 0, none⟩ = some (.slice Ab p.bins.length cb)) (hp1 : W0.cell? ⟨Bp, 1, none⟩ = some (.slice As p.sizes.length cs)) (hA : At W0 n₀ Ab (p.bins.flatMap cBin))
    (hbox : Boxed W0 Bo 23 u) (hown : Own cInt 1 3 W0 n₀ u (nats pre0)) (hL : Held L W0) (hLf : (Bf, Obj.cells #[.bool f] 4 (0, 0)) ∈ L) (hLt : ∀ x ∈ L, ∀ cs sp, x.2 ≠ .cells cs 3 sp) (hLo : ∀ x ∈ L, x.1 ≠ Bo)
    (hdone : ∀ (D : Nat) (W : World), W0.heap.size ≤ D → outI n₀ Bo pre0 L W0 (kinds p f) W → W.heap[D]? = some (.deferred (some [])) → Q .normal { tmps := #[t0, t1, t2, t3, t4, .pointer (some ⟨Bo, 0, none⟩), t6, t7, t8, t9, t10, t11, t12, t13, t14, t15, t16, t17, t18, t19, t20, t21, .func (.func 64) #[] #[.pointer (some ⟨Bp, 0, none⟩), .pointer (some ⟨Bf, 0, none⟩)], t23, t24, t25, t26, t27, t28, t29], defers := { target := .collected D, args := #[] } :: ds } W) :
    (Code.rangeFunc (Operand.tmp 22) #[23] (Code.region 9 #[{ dst := some 8, op := Op.assign (Operand.tmp 23), type := 3, pos := "plan.go:45", after := #[], guard := none }] false)
      (Code.block 3 (Code.region 10 #[
        { dst := some 24, op := Op.load 23 (Operand.tmp 5), type := 23, pos := "plan.go:46", after := #[], guard := none },
        { dst := some 25, op := Op.move (Operand.tmp 8), type := 3, pos := "plan.go:46", after := #[], guard := none },
        { dst := some 26, op := Op.buildSlice 23 1 #[(0, Operand.tmp 25)], type := 23, pos := "plan.go:46", after := #[{ on := 1, ground := Ground.data }], guard := none },
        { dst := some 27, op := Op.call { callee := Callee.builtin Builtin.append, args := #[Operand.tmp 24, Operand.tmp 26], argTypes := #[23, 23] }, type := 23, pos := "plan.go:46", after := #[{ on := 0, ground := Ground.data }, { on := 2, ground := Ground.data }], guard := none },
        { dst := none, op := Op.store 23 (Operand.tmp 5) (Operand.tmp 27), type := 0, pos := "plan.go:46", after := #[{ on := 3, ground := Ground.data }, { on := 3, ground := Ground.chain }, { on := 0, ground := Ground.phase }, { on := 1, ground := Ground.phase }, { on := 2, ground := Ground.phase }, { on := 3, ground := Ground.phase }], guard := none }] false))).wpIn Fence.wide 5 Try.prog Q
      { tmps := #[t0, t1, t2, t3, t4, .pointer (some ⟨Bo, 0, none⟩), t6, t7, t8, t9, t10, t11, t12, t13, t14, t15, t16, t17, t18, t19, t20, t21, .func (.func 64) #[] #[.pointer (some ⟨Bp, 0, none⟩), .pointer (some ⟨Bf, 0, none⟩)], t23, t24, t25, t26, t27, t28, t29], defers := ds } W0 := by
  have bF : W0.cell? ⟨Bf, 0, none⟩ = some (.bool f) := Boxed.cell (hL _ hLf)
  have hBf : Bf < W0.heap.size := hL.lt _ hLf
  have hBpl : Bp < W0.heap.size := cell_lt' hp0
  refine wpIn_rangeFunc_ownG rfl (by omega) (gf := 64) (lb := #[.pointer (some ⟨Bp, 0, none⟩), .pointer (some ⟨Bf, 0, none⟩)]) rfl trivial (enters_of Try.func64 (by kernel_rfl) rfl)
    (bins_stops Fence.wide (5 - 1) trivial rfl (by omega) Bp Bf n₀ p f Ab As cb cs hlb W0 hn0 hBpl hBf hp0 hp1 bF hA)
    (fun h k => ⟨h.1.trans k.1, k.2.trans h.2⟩)
    (fun W l o o' hl ho hc hw => ⟨belowK_b hn0 W l o o' hl ho hc hw, ((Below.refl W0.heap.size W).grown (grownBy_putObj' W l o') (by have := (Array.getElem?_eq_some_iff.1 ho).1; omega) (fun k e => by cases e; exact hl)).cell (p := ⟨Bf, 0, none⟩) hBf⟩)
    (Below.refl _ _) (fun _ => rfl)
    (outI n₀ Bo pre0 L W0)
    (fun _ _ _ => False)
    (OwnFrom.and (OwnFrom.and (Own.from (holdsRow_own n₀ Bo 23 3 1 (fun pre => (nats (pre0 ++ pre)).length) (fun pre => (nats (pre0 ++ pre)).flatMap cInt) (fun _ _ => True)) _) (Held.from_ hL.lt)) (ownFrom_below hn0 hn0))
    (fun _ _ _ _ _ hs _ _ => hs)
    ⟨⟨⟨u, hbox, by simpa using hown, trivial⟩, hL⟩, Below.refl _ _⟩
    (fun x => { tmps := #[t0, t1, t2, t3, t4, .pointer (some ⟨Bo, 0, none⟩), t6, t7, .int .i64 ((x : Nat) : Int), t9, t10, t11, t12, t13, t14, t15, t16, t17, t18, t19, t20, t21, .func (.func 64) #[] #[.pointer (some ⟨Bp, 0, none⟩), .pointer (some ⟨Bf, 0, none⟩)], .int .i64 ((x : Nat) : Int), t24, t25, t26, t27, t28, t29], defers := [] }) ?assign ?body ?done ?stop
  case assign =>
    intro l x W K hK
    gi_wp2
    exact hK
  case body =>
    rintro l pre x W ⟨⟨⟨v, hv, hrow, _⟩, hH⟩, hB⟩ hlt
    have hc := hv.cell
    have hlen : (nats (pre0 ++ pre)).length ≤ 12 := by rw [nats_length, List.length_append]; omega
    obtain ⟨i0, hi, hz0, hz1, hz2⟩ := elem_of (P := Try.prog) (e := 3) (z := .int .i64 0) (size := 1) (bytes := 8) (by kernel_rfl)
    have u23 : Try.prog.underlying 23 = some (.slice 3) := by kernel_rfl
    gi_wp2_with (gi_at_builtin; refine wpListIn_append_own _ rfl _ _ 23 rfl n₀ 3 i0 (.int .i64 0) 1 8 u23 hi hz0 hz1 hz2 rfl (by decide) _ _ _ rfl (World.ownsRow.alloc hrow _) ⟨W.heap.size, 0, none⟩ 1 1 [.int .i64 ((x : Nat) : Int)] rfl rfl (cell_one_new _ _ _) (by simp [Value.oneCell']) (by unfold maxLen; omega) (by omega) (by have := hB.size; simp; omega) ?_; intro v' w1 hown' hgrow _; obtain ⟨g', cap', rfl⟩ := ownsRow_succ hown'; obtain ⟨hv1, hv2, hr2, hk2, hb2⟩ := hv.appended (by decide) hrow (Nat.le_trans hn0 hB.size) hBo hown' hgrow; have hc1 := hv1.cell; have hf1 := hv1.frozen)
    have hH' := ((hH.alloc _).grown hgrow (hH.not_row hLt hrow)).setCell Bo (.slice (some ⟨g', 0, none⟩) ((nats (pre0 ++ pre)).length + 1) cap') hLo
    refine ⟨hk2.from _, ⟨hb2, (Boxed.cell (hH' _ hLf)).trans (Boxed.cell (hH _ hLf)).symm⟩, ⟨⟨_, hv2, ?_, trivial⟩, hH'⟩, hB.trans hb2⟩
    unfold Own
    have e1 : nats (pre0 ++ (pre ++ [x])) = nats (pre0 ++ pre) ++ [(x : Int)] := by simp [nats]
    have e2 : (nats (pre0 ++ pre) ++ [(x : Int)]).length = (nats (pre0 ++ pre)).length + 1 := by simp
    have e3 : (nats (pre0 ++ pre) ++ [(x : Int)]).flatMap cInt = (nats (pre0 ++ pre)).flatMap cInt ++ [.int .i64 ((x : Nat) : Int)] := by rw [List.flatMap_append]; simp [cInt]
    rw [e1, e2, e3]
    exact hr2
  case done =>
    rintro D ys W hD rfl hI hK
    exact hdone D W hD hI hK
  case stop =>
    rintro D c pre W _ _ h _
    exact h.elim

set_option maxRecDepth 100000 in
set_option maxHeartbeats 4000000 in
theorem planWay (w : World) (v : Value) (p : Plan) (hp : PlanV w w.heap.size v p) :
    Calls Try.prog 12 #[v] w fun e w' => ∃ u, e = .returned (.tuple #[u, .int .i64 (checkPlan p)]) ∧ Sl cInt w' w'.heap.size u (if checkPlan p = 0 then nats (way p) else []) ∧ Below w.heap.size w w' := by
  have hP := hp
  obtain ⟨_, _, rfl, ⟨Ab, cb, rfl, hlb, hb⟩, ⟨As, cs, rfl, hls, hs⟩⟩ := hp
  have hb0 : Below w.heap.size w (w.alloc (.cells #[.slice Ab p.bins.length cb, .slice As p.sizes.length cs] 25)) := (Below.refl _ _).alloc (Nat.le_refl _) _
  refine (callsIn_wide (n := 5)).1 ?_
  refine callsIn_of_wp_marks Try.func12 rfl trivial ?_ rfl
  simp only [Try.ntmps12, List.size_toArray, List.length_cons, List.length_nil, Nat.reduceAdd, Nat.reduceSub, Array.replicate_succ, Array.replicate_zero, List.push_toArray, List.append_toArray, List.nil_append, List.cons_append]
  gi_wp2_with fail
  refine ⟨trivial, (callsIn_wide.2 (planCheck _ _ p (hP.grow hb0))).mono ?_⟩
  rintro e W1 ⟨rfl, hb1⟩
  have hbw := hb0.trans (hb1.mono hb0.size)
  obtain ⟨hc1, hf1⟩ := bcell hb1
  have hlt1 : w.heap.size < W1.heap.size := by have := hb1.size; simp at this; omega
  by_cases hz : checkPlan p = 0
  · gi_wp2
    refine wpIn_loop_rounds 3 ?_
    rw [roundsIn_succ]
    gi_wp2_with fail
    refine ⟨trivial, (bins_in Fence.wide 4 trivial rfl _ _ _ _).mono ?_⟩
    rintro e W2 ⟨rfl, rfl⟩
    simp only [World.size_alloc]
    gi_wp2_with fail
    have q0 := Boxed.new W1 23 (.slice none 0 0)
    have q1 := World.alloc_heap_new (W1.alloc (.cells #[.slice none 0 0] 23)) (.cells #[.bool true, .bool false] 4)
    refine wayLoop _ _ _ W1.heap.size (W1.heap.size + 1 + 1) (W1.heap.size + 1 + 1 + 1) W1.heap.size (.slice none 0 0) [] [(W1.heap.size + 1 + 1 + 1, .cells #[.bool true] 4 (0, 0)), (W1.heap.size + 1, .cells #[.bool true, .bool false] 4 (0, 0))] p true Ab As cb cs (right_counts hz).2.1 (by simp) _ _ _ _ _ _ _ _ _ _ _ _ _ _ _ _ _ _ _ _ _ _ _ _ _ _ _ _ (by simp; omega) (Nat.le_refl _) ?a0 ?a1 ?a2 ?a3 ?a4 ?a5 ?a6 ?a7 ?a8 ?a9
    case a0 => exact cell_of_heap ((heap_alloc_old (by simp)).trans (heap_alloc_at (by simp))) rfl
    case a1 => exact cell_of_heap ((heap_alloc_old (by simp)).trans (heap_alloc_at (by simp))) rfl
    case a2 => exact (hb.up hb0 hb0.size).up hb1 hb1.size |>.up (((((Below.refl _ _).alloc (Nat.le_refl _) _).alloc (by simp) _).alloc (by simp; omega) _).alloc (by simp; omega) _) (Nat.le_refl _)
    case a3 => exact ((q0.alloc _).alloc _).alloc _
    case a4 => exact Own.nil
    case a5 =>
      intro x hx
      simp at hx
      rcases hx with rfl | rfl
      · exact heap_alloc_at (by simp)
      · exact (heap_alloc_old (by simp)).trans ((heap_alloc_old (by simp)).trans (heap_alloc_at (by simp)))
    case a6 => simp
    case a7 =>
      intro x hx cs sp e
      simp at hx
      rcases hx with rfl | rfl <;> simp at e
    case a8 =>
      intro x hx
      simp at hx
      rcases hx with rfl | rfl
      · show W1.heap.size + 1 + 1 + 1 ≠ W1.heap.size; omega
      · show W1.heap.size + 1 ≠ W1.heap.size; omega
    case a9 =>
      intro D W hD hI hK
      obtain ⟨⟨⟨u, hu, hown, _⟩, hH⟩, hB⟩ := hI
      have hB1 : Below W1.heap.size W1 W := Below.trans (((((Below.refl _ _).alloc (Nat.le_refl _) _).alloc (by simp) _).alloc (by simp; omega) _).alloc (by simp; omega) _) hB
      have z1 : W.cell? ⟨w.heap.size, 0, none⟩ = some (.slice Ab p.bins.length cb) := (hB1.cell (p := ⟨w.heap.size, 0, none⟩) hlt1).trans ((hc1 w.heap.size 0 (by simp)).trans (by simp))
      have z2 : W.cell? ⟨w.heap.size, 1, none⟩ = some (.slice As p.sizes.length cs) := (hB1.cell (p := ⟨w.heap.size, 1, none⟩) hlt1).trans ((hc1 w.heap.size 1 (by simp)).trans (by simp))
      have g1 : W.cell? ⟨W1.heap.size + 1, 1, none⟩ = some (.bool false) := by
        have := hH (W1.heap.size + 1, .cells #[.bool true, .bool false] 4 (0, 0)) (by simp)
        simp only at this
        simp [World.cell?, this]
      simp at hD
      gi_wp2
      rw [roundsIn_succ]
      gi_wp2_with fail
      refine ⟨trivial, (bins_in Fence.wide 4 trivial rfl _ _ _ _).mono ?_⟩
      rintro e W2 ⟨rfl, rfl⟩
      gi_wp2_with fail
      have hWs : W1.heap.size ≤ W.heap.size := hB1.size
      have hDl := (Array.getElem?_eq_some_iff.1 hK).1
      have hul := hu.lt
      refine wayLoop _ _ _ W1.heap.size W.heap.size (W.heap.size + 1) W1.heap.size u (kinds p true) [(W.heap.size + 1, .cells #[.bool false] 4 (0, 0)), (D, .deferred (some []))] p false Ab As cb cs (right_counts hz).2.1 (Nat.le_trans (kindsTo_length p true p.bins.length) (right_counts hz).2.1) _ _ _ _ _ _ _ _ _ _ _ _ _ _ _ _ _ _ _ _ _ _ _ _ _ _ _ _ (by simp; omega) (Nat.le_refl _) ?b0 ?b1 ?b2 ?b3 ?b4 ?b5 ?b6 ?b7 ?b8 ?b9
      case b0 => exact cell_of_heap ((heap_alloc_old (by simp)).trans (heap_alloc_at rfl)) rfl
      case b1 => exact cell_of_heap ((heap_alloc_old (by simp)).trans (heap_alloc_at rfl)) rfl
      case b2 => exact ((hb.up hb0 hb0.size).up hb1 hb1.size |>.up hB1 (Nat.le_refl _)).up (((Below.refl _ _).alloc hWs _).alloc (by simp; omega) _) (Nat.le_refl _)
      case b3 => exact (hu.alloc _).alloc _
      case b4 => exact (by simpa using hown : Own cInt 1 3 W W1.heap.size u (nats (kinds p true))) |>.alloc _ |>.alloc _
      case b5 =>
        intro x hx
        simp at hx
        rcases hx with rfl | rfl
        · exact heap_alloc_at (by simp)
        · exact (heap_alloc_old (by simp; omega)).trans ((heap_alloc_old hDl).trans hK)
      case b6 => simp
      case b7 =>
        intro x hx cs sp e
        simp at hx
        rcases hx with rfl | rfl <;> simp at e
      case b8 =>
        intro x hx
        simp at hx
        rcases hx with rfl | rfl
        · show W.heap.size + 1 ≠ W1.heap.size; omega
        · show D ≠ W1.heap.size; omega
      case b9 =>
        intro D2 W3 hD2 hI2 hK2
        obtain ⟨⟨⟨u2, hu2, hown2, _⟩, hH2⟩, hB2⟩ := hI2
        have hKD := hH2 (D, .deferred (some [])) (by simp)
        have hc2 := hu2.cell
        simp at hD2
        gi_wp2
        rw [roundsIn_succ]
        gi_wp2
        have hne : D ≠ D2 := by omega
        have hKD' : (W3.putObj D2 (.deferred none)).heap[D]? = some (.deferred (some [])) := (World.putObj_heap_other hne).trans hKD
        have hB3 : Below W1.heap.size W1 W3 := hB1.trans ((((Below.refl _ _).alloc hWs _).alloc (by simp; omega) _).trans hB2)
        have hB4 : Below W1.heap.size W1 (W3.putObj D2 (.deferred none)) := hB3.trans (belowK_b (Nat.le_refl _) W3 D2 _ _ (by omega) hK2 rfl rfl)
        have hB5 : Below W1.heap.size W1 ((W3.putObj D2 (.deferred none)).putObj D (.deferred none)) := hB4.trans (belowK_b (Nat.le_refl _) _ D _ _ (by omega) hKD' rfl rfl)
        have hown5 : Own cInt 1 3 ((W3.putObj D2 (.deferred none)).putObj D (.deferred none)) W1.heap.size u2 (nats (way p)) := ownsRow_putObj (ownsRow_putObj hown2 _ hK2 rfl) _ hKD' rfl
        refine ⟨by simp, .inl ⟨_, _, rfl, run_takeDeferred hK2, ?_⟩⟩
        refine ⟨by simp, .inl ⟨_, _, rfl, run_takeDeferred hKD', ?_⟩⟩
        refine ⟨_, by simp [results, Try.results12, go_sem], u2, rfl, hown5.sl ?_, hbw.trans (hB5.mono hbw.size)⟩
        rw [nats_length, way_length]
        omega
  · have hzb : (checkPlan p != 0) = true := by simpa using hz
    have hzf : (checkPlan p == 0) = false := by simpa using hz
    gi_wp2
    refine ⟨_, by simp [results, Try.results12, go_sem], _, rfl, Sl.nil, hbw⟩
end Wh
