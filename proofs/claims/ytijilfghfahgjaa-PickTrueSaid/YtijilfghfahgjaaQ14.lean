/- Texts of the claim, joined: Box, HoldsD, HoldsE. -/
import Derived.Test.YtijilfghfahgjaaQ13
import Derived.Test.YtijilfghfahgjaaQ10
import Derived.Test.YtijilfghfahgjaaQ08
namespace Wh
open Go Go.RowKit Go.Shelf Go.Proofs

/-- What a step leaves: every old block but those of 'ks'. -/
structure Step (ks : Nat → Prop) (w w' : World) : Prop where
  os : w'.os = w.os
  tape : w'.tape = w.tape
  output : w'.output = w.output
  size : w.heap.size ≤ w'.heap.size
  block : ∀ k, k < w.heap.size → ¬ ks k → w'.heap[k]? = w.heap[k]?
namespace Step
variable {ks ks' : Nat → Prop} {a b c w w' : World}
theorem refl (ks : Nat → Prop) (w : World) : Step ks w w := ⟨rfl, rfl, rfl, Nat.le_refl _, fun _ _ _ => rfl⟩
theorem trans' (h : Step ks a b) (h' : Step ks' b c) (hk : ∀ k, k < a.heap.size → ks' k → ks k) : Step ks a c :=
  ⟨h'.os.trans h.os, h'.tape.trans h.tape, h'.output.trans h.output, Nat.le_trans h.size h'.size, fun k hl hn => (h'.block k (Nat.lt_of_lt_of_le hl h.size) (fun hh => hn (hk k hl hh))).trans (h.block k hl hn)⟩
theorem trans (h : Step ks a b) (h' : Step ks b c) : Step ks a c := h.trans' h' fun _ _ h => h
theorem mono (h : Step ks w w') (hk : ∀ k, ks k → ks' k) : Step ks' w w' := ⟨h.os, h.tape, h.output, h.size, fun k hl hn => h.block k hl fun hh => hn (hk k hh)⟩
theorem of_below (h : Below w.heap.size w w') : Step ks w w' := ⟨h.os, h.tape, h.output, h.size, fun k hl _ => h.block k hl⟩
theorem of_grown {row : Option Nat} (h : w.grownBy w' row) (hk : ∀ k, row = some k → ks k) : Step ks w w' :=
  ⟨h.os, h.tape, h.output, h.size, fun k hl hn => h.block k hl (fun he => hn (hk k he.symm))⟩
theorem below {B : Nat} (h : Step ks w w') (hk : ∀ k, ks k → B ≤ k) (hB : B ≤ w.heap.size) : Below B w w' :=
  ⟨h.os, h.tape, h.output, h.size, fun k hl => h.block k (Nat.lt_of_lt_of_le hl hB) fun hh => Nat.not_le_of_lt hl (hk k hh)⟩
theorem blk {g : Nat} {e : TypeId} {cur : List Value} (h : Step ks w w') (hb : Blk w g e cur) (hn : ¬ ks g) : Blk w' g e cur := (h.block g hb.lt hn).trans hb
theorem heap {g : Nat} {o : Obj} (h : Step ks w w') (hb : w.heap[g]? = some o) (hn : ¬ ks g) : w'.heap[g]? = some o := (h.block g (Array.getElem?_eq_some_iff.1 hb).1 hn).trans hb
end Step
theorem Own.step {α : Type} {enc : α → List Value} {size : Nat} {e : TypeId} {w w' : World} {base : Nat} {v : Value} {l : List α} {ks : Nat → Prop} (h : Own enc size e w base v l) (hs : Step ks w w') (hk : ∀ k, v.ownBlock = some k → ¬ ks k) : Own enc size e w' base v l := by
  refine ⟨h.1, ?_⟩
  rcases h.2 with hn | ⟨g, cap, cur, rfl, hbg, hg, rest⟩
  · exact .inl hn
  · exact .inr ⟨g, cap, cur, rfl, hbg, by rw [hs.block g (Array.getElem?_eq_some_iff.1 hg).1 (hk g rfl)]; exact hg, rest⟩

/-- No element's type of a state. -/
structure BoxT (t : TypeId) : Prop where
  h1 : 23 ≠ t
  h2 : 3 ≠ t
  h3 : 53 ≠ t
  h4 : 56 ≠ t
  h5 : 63 ≠ t
  h6 : 40 ≠ t
theorem boxT : BoxT 31 := ⟨by decide, by decide, by decide, by decide, by decide, by decide⟩

/-- A state of the call's own that leads the block b, whose type is t; 'rest': the block's other cells. -/
structure Bx (w : World) (base b : Nat) (t : TypeId) (rest : List Value) (V : SV) (s : State) : Prop where
  box : Blk w b t (V.cells ++ rest)
  own : OwnSt w base V s
  ty : BoxT t
namespace Bx
variable {w w' : World} {base b : Nat} {t : TypeId} {rest : List Value} {V : SV} {s : State} {ks : Nat → Prop}
theorem of (h : BoxAt w b V) (ho : OwnSt w base V s) : Bx w base b 31 [] V s := ⟨by rw [List.append_nil]; exact h, ho, boxT⟩
theorem boxAt (h : Bx w base b 31 [] V s) : BoxAt w b V := by have := h.box; rwa [List.append_nil] at this
theorem lt (h : Bx w base b t rest V s) : b < w.heap.size := h.box.lt
theorem below (h : Bx w base b t rest V s) (hb : Below w.heap.size w w') : Bx w' base b t rest V s := ⟨h.box.below hb h.lt, h.own.below hb, h.ty⟩
theorem drew (h : Bx w base b t rest V s) : Bx w.drew base b t rest V s := ⟨h.box, h.own.drew, h.ty⟩
theorem from_ (h : Bx w base b t rest V s) {base' : Nat} (hb : base' ≤ base) : Bx w base' b t rest V s := ⟨h.box, h.own.from_ hb, h.ty⟩
theorem cells (h : Bx w base b t rest V s) : w.cell? ⟨b, 0, none⟩ = some V.on ∧ w.cell? ⟨b, 1, none⟩ = some V.orders ∧ w.cell? ⟨b, 2, none⟩ = some V.holds ∧ w.cell? ⟨b, 3, none⟩ = some V.moves ∧
    w.cell? ⟨b, 4, none⟩ = some V.inn ∧ w.cell? ⟨b, 5, none⟩ = some V.out ∧ w.cell? ⟨b, 6, none⟩ = some V.fixed :=
  ⟨h.box.cell rfl, h.box.cell rfl, h.box.cell rfl, h.box.cell rfl, h.box.cell rfl, h.box.cell rfl, h.box.cell rfl⟩
theorem frozen (h : Bx w base b t rest V s) (o : Nat) : w.frozen? ⟨b, o, none⟩ = false := h.box.frozen o
theorem setCells (h : Bx w base b t rest V s) (j : Nat) (u : Value) (V' : SV) (hV : V'.cells ++ rest = (V.cells ++ rest).set j u) :
    Blk (w.setCell ⟨b, j, none⟩ u) b t (V'.cells ++ rest) ∧ w.grownBy (w.setCell ⟨b, j, none⟩ u) (some b) ∧ OwnSt (w.setCell ⟨b, j, none⟩ u) base V s := by
  obtain ⟨h1, h2⟩ := set_row h.box j u
  exact ⟨by rw [hV]; exact h1, h2, h.own.keptBy h2 h.box h.ty.h1 h.ty.h2 h.ty.h3 h.ty.h4 h.ty.h5 h.ty.h6⟩
/-- A cell of the block is written, and the state is the other one then. -/
theorem set' {V' : SV} {s' : State} (hb : Blk w b t (V.cells ++ rest)) (ho : OwnSt w base V' s') (hT : BoxT t) (j : Nat) (u : Value) (hV : V'.cells ++ rest = (V.cells ++ rest).set j u) :
    Bx (w.setCell ⟨b, j, none⟩ u) base b t rest V' s' ∧ w.grownBy (w.setCell ⟨b, j, none⟩ u) (some b) := by
  obtain ⟨h1, h2⟩ := set_row hb j u
  exact ⟨⟨by rw [hV]; exact h1, ho.keptBy h2 hb hT.h1 hT.h2 hT.h3 hT.h4 hT.h5 hT.h6, hT⟩, h2⟩
/-- An order more: what append gave is stored. -/
theorem pushOrder {w1 w2 : World} (h : Bx w base b t rest V s) (hb : Below w.heap.size w w1) {u : Value} {x : Order} (hu : Own cLine 4 56 w1 base u x.lines) (hf : ∀ g, u.ownBlock = some g → w.heap.size ≤ g) (hg : w1.grownBy w2 V.orders.ownBlock)
    {v' : Value} (hv : Own cOrd 2 53 w2 base v' (ords s.orders V.lines ++ [(x.kind, u)])) :
    Blk w2 b t (V.cells ++ rest) ∧ OwnSt w2 base { V with orders := v', lines := V.lines ++ [u] } { s with orders := s.orders ++ [x] } := by
  have h1 := h.below hb
  exact ⟨h1.box.grown hg (fun he => by
    rcases h1.own.orders.notBox h1.box h1.ty.h3 with h | h
    · rw [h] at he; cases he
    · exact h he.symm), h.own.pushOrder hb hu hf hg hv⟩
/-- Another slice of holds. -/
theorem setHolds (h : Bx w base b t rest V s) {u : Value} {l : List Hold} (hu : Own cHold 4 63 w base u l) :
    Bx (w.setCell ⟨b, 2, none⟩ u) base b t rest { V with holds := u } { s with holds := l } ∧ w.grownBy (w.setCell ⟨b, 2, none⟩ u) (some b) := by
  obtain ⟨h1, h2, h3⟩ := h.setCells 2 u { V with holds := u } rfl
  exact ⟨⟨h1, ⟨h3.on, h3.rlen, h3.row, h3.orders, h3.llen, h3.line, hu.kept h2 (hu.notBox h.box h.ty.h5), h3.moves, h3.inn, h3.out, h3.fixed, h3.apart, h3.apartl⟩, h.ty⟩, h2⟩
/-- A store that leaves the box. -/
theorem off (h : Bx w base b t rest V s) {g : Nat} {e : TypeId} {cur : List Value} (hb : Blk w g e cur) (hne : e ≠ t) (hg : w.grownBy w' (some g)) : Blk w' b t (V.cells ++ rest) :=
  h.box.grown hg (by intro he; injection he with he; exact hb.ne h.box hne he.symm)
end Bx

section
variable {ops : Array Oper} {rest : List Oper} {o : Oper} {a : Act} {w : World} {Q : Exit → Act → World → Prop} {base b : Nat} {t : TypeId} {cs : List Value} {V : SV} {s : State}
theorem wp_st_holds (hgd : o.guard = none) (x y : Operand) (ho : o.op = .store 28 x y) (hn : o.dst = none) (A : Option Addr) (n c : Nat) (l : List Hold) (hB : Bx w base b t cs V s) (hx : a.eval x = .pointer (some ⟨b, 2, none⟩)) (hy : a.eval y = .slice A n c)
    (hu : Own cHold 4 63 w base (.slice A n c) l) (h : ∀ w', Bx w' base b t cs { V with holds := .slice A n c } { s with holds := l } → Step (· = b) w w' → wpList Try.prog ops Q rest a w') : wpList Try.prog ops Q (o :: rest) a w :=
  wpList_plain hgd fun K hK => by
    obtain ⟨h1, h2⟩ := hB.setHolds hu
    have h3 := h _ h1 (.of_grown h2 fun k hk => by injection hk with hk; exact hk.symm)
    have hc := hB.cells.2.2.1
    have hf := hB.frozen 2
    clear h hB hu h1 h2
    unfold Oper.wp
    simp only [execOp, ho, hx, hy]
    go_simp
    exact hK _ _ h3
theorem four_cells {w : World} {gl o j : Nat} {a b c d : Value} (hj : j < 4) (h0 : w.cell? ⟨gl, o, none⟩ = some a) (h1 : w.cell? ⟨gl, o + 1, none⟩ = some b) (h2 : w.cell? ⟨gl, o + 2, none⟩ = some c) (h3 : w.cell? ⟨gl, o + 3, none⟩ = some d) : ∃ u, w.cell? ⟨gl, o + j, none⟩ = some u := by
  rcases (show j = 0 ∨ j = 1 ∨ j = 2 ∨ j = 3 by omega) with rfl | rfl | rfl | rfl
  · exact ⟨_, h0⟩
  · exact ⟨_, h1⟩
  · exact ⟨_, h2⟩
  · exact ⟨_, h3⟩
/-- A slice stored into the box; the state is the other one then. -/
theorem wp_st_holds' (hgd : o.guard = none) (x y : Operand) (ho : o.op = .store 28 x y) (hn : o.dst = none) (A : Option Addr) (n c : Nat) {V' : SV} {s' : State} (hk : Blk w b t (V.cells ++ cs)) (hO : OwnSt w base V' s') (hT : BoxT t) (hV : V'.cells ++ cs = (V.cells ++ cs).set 2 (.slice A n c))
    (hx : a.eval x = .pointer (some ⟨b, 2, none⟩)) (hy : a.eval y = .slice A n c) (h : ∀ w', Bx w' base b t cs V' s' → Step (· = b) w w' → wpList Try.prog ops Q rest a w') : wpList Try.prog ops Q (o :: rest) a w :=
  wpList_plain hgd fun K hK => by
    obtain ⟨h1, h2⟩ := Bx.set' hk hO hT 2 (.slice A n c) hV
    have h3 := h _ h1 (.of_grown h2 fun k hk => by injection hk with hk; exact hk.symm)
    have hc : w.cell? ⟨b, 2, none⟩ = some V.holds := hk.cell rfl
    have hf := hk.frozen 2
    clear h hk hO h1 h2 hV
    unfold Oper.wp
    simp only [execOp, ho, hx, hy]
    go_simp
    exact hK _ _ h3
set_option maxHeartbeats 1000000 in
/-- A number of a line. -/
theorem wp_st_line (hgd : o.guard = none) (x z : Operand) (ho : o.op = .store 3 x z) (hn : o.dst = none) {i k j gl n c : Nat} {y : Line} {q : Int} (hB : Bx w base b t cs V s) (hi : i < s.orders.length) (hk : k < (s.order i).lines.length)
    (hv : V.line i = .slice (some ⟨gl, 0, none⟩) n c) (hj : j < 4) (hy : cLine y = (cLine (s.line i k)).set j (.int .i64 q)) (hx : a.eval x = .pointer (some ⟨gl, k * 4 + j, none⟩)) (hz : a.eval z = .int .i64 q)
    (h : ∀ w', Bx w' base b t cs V (s.setLine i k y) → Step (· = gl) w w' → wpList Try.prog ops Q rest a w') : wpList Try.prog ops Q (o :: rest) a w :=
  wpList_plain hgd fun K hK => by
    obtain ⟨g', c', cur, e1, _, e3, f0, f1, f2, f3⟩ := hB.own.lineAt hi hk
    rw [hv] at e1
    injection e1 with e1
    injection e1 with e1
    injection e1 with e1
    subst e1
    obtain ⟨h1, h2⟩ := hB.own.setLine hi hk hv hj hy
    have h3 := h _ ⟨hB.off e3 hB.ty.h4 h2, h1, hB.ty⟩ (.of_grown h2 fun k hk => by injection hk with hk; exact hk.symm)
    have hf := e3.frozen (k * 4 + j)
    obtain ⟨u, hc⟩ := four_cells hj f0 f1 f2 f3
    clear h hB h1 h2 f0 f1 f2 f3 e3 hy
    unfold Oper.wp
    simp only [execOp, ho, hx, hz]
    go_simp
    exact hK _ _ h3
end
end Wh
namespace Wh
open Go Go.RowKit Go.Shelf Go.Proofs
attribute [local go_sem] run_indexAt_letter

theorem pos_eq' {l : List Hold} {h : Hold} {k : Nat} (hk : k ≤ l.length) (h1 : ∀ i, i < k → ord (hold l i) h < 0) (h2 : ∀ i, k ≤ i → i < l.length → 0 ≤ ord (hold l i) h) : pos l h = k :=
  pos_eq hk h1 (fun hk' => h2 k (Nat.le_refl _) hk')

set_option maxHeartbeats 2000000 in
theorem slSearch (w : World) (v : Value) (l : List Hold) (x : Hold) (hv : Sl cHold w w.heap.size v l) (hok : holdsOk l = true) (hn : l.length ≤ 1000000) :
    Calls Try.prog 109 #[v, vHold x, .func (.func 107) #[] #[]] w fun e w' => e = .returned (.tuple #[.int .i64 (pos l x), .bool (found l x)]) ∧ Below w.heap.size w w' := by
  obtain ⟨A, c, rfl, _, hA⟩ := hv
  have hless := Lib.hid (fun (i j : Nat) (hij : i ≤ j) (hj : j < l.length) (h : ord (hold l j) x < 0) => ok_less hok hij hj h)
  have hok' := Lib.hid hok
  clear hok
  have hb0 : Below w.heap.size w (w.alloc (.cells #[.int .i64 (x).order, .int .i64 (x).line, .int .i64 (x).bin, .int .i64 (x).n] 63)) := (Below.refl _ _).alloc (Nat.le_refl _) _
  unfold vHold
  go_enter Try.func109, Try.ntmps109
  go_wp2_with fail
  obtain ⟨W0, hW0⟩ : ∃ W0, W0 = w.alloc (.cells #[.int .i64 (x).order, .int .i64 (x).line, .int .i64 (x).bin, .int .i64 (x).n] 63) := ⟨_, rfl⟩
  rw [← hW0] at hb0 ⊢
  have z0 : W0.cell? ⟨w.heap.size, 0, none⟩ = some (.int .i64 x.order) ∧ W0.cell? ⟨w.heap.size, 1, none⟩ = some (.int .i64 x.line) ∧ W0.cell? ⟨w.heap.size, 2, none⟩ = some (.int .i64 x.bin) ∧ W0.cell? ⟨w.heap.size, 3, none⟩ = some (.int .i64 x.n) := by rw [hW0]; simp
  have hsz : w.heap.size < W0.heap.size := by rw [hW0]; simp
  clear hW0
  obtain ⟨z0, z1, z2, z3⟩ := z0
  go_loopw [9, 10, 11] (fun i j _ wr => ∃ a b : Nat, a ≤ b ∧ b ≤ l.length ∧ i = .int .i64 a ∧ j = .int .i64 b ∧ (∀ m, m < a → ord (hold l m) x < 0) ∧ (∀ m, b ≤ m → m < l.length → 0 ≤ ord (hold l m) x) ∧ Below W0.heap.size W0 wr) (fun i j _ _ => (intOf j - intOf i).toNat)
  case atStart => exact ⟨0, l.length, Nat.zero_le _, Nat.le_refl _, rfl, rfl, fun m hm => by omega, fun m h1 h2 => by omega, Below.refl _ _⟩
  case round =>
    obtain ⟨a, b, hab, hbl, rfl, rfl, h1, h2, hbw⟩ := hrel
    have h1' := Lib.hid h1
    have h2' := Lib.hid h2
    clear h1 h2
    by_cases hlt : a < b
    · have hm : (a + b) / 2 < l.length := by omega
      have hma : a ≤ (a + b) / 2 := by omega
      have hmb : (a + b) / 2 < b := by omega
      have hB := hb0.trans (hbw.mono hb0.size)
      have hBz : w.heap.size < wr.heap.size := Nat.lt_of_lt_of_le hsz hbw.size
      obtain ⟨y0, y1, y2, y3⟩ : wr.cell? ⟨w.heap.size, 0, none⟩ = some (.int .i64 x.order) ∧ wr.cell? ⟨w.heap.size, 1, none⟩ = some (.int .i64 x.line) ∧ wr.cell? ⟨w.heap.size, 2, none⟩ = some (.int .i64 x.bin) ∧ wr.cell? ⟨w.heap.size, 3, none⟩ = some (.int .i64 x.n) :=
        ⟨(hbw.cell (p := ⟨_, _, none⟩) hsz).trans z0, (hbw.cell (p := ⟨_, _, none⟩) hsz).trans z1, (hbw.cell (p := ⟨_, _, none⟩) hsz).trans z2, (hbw.cell (p := ⟨_, _, none⟩) hsz).trans z3⟩
      obtain ⟨hok, hAb, b0, b1, b2, b3⟩ := (hA.up hB hB.size).hold hm
      have q0 := fun o d os => cells_wld (w := wr) (b := w.heap.size) hBz o d os
      have qA := fun o d os => cells_wld (w := wr) (b := ablk A) hAb o d os
      by_cases ho : ord (hold l ((a + b) / 2)) x < 0
      · go_wp2_with fail
        refine wp_region_wld (by kernel_rfl) (by kernel_rfl) ?_
        repeat (go_big_quiet_step ((go_at_call 107; refine calls_wld (hdOrder (hold l ((a + b) / 2)) x _))))
        refine wpQuiet_nil ?_
        intro W2 hw'
        have hb2 := below_of_cls hw'
        clear hw'
        go_wp2_with fail
        go_roundw
        case rel =>
          refine ⟨(a + b) / 2 + 1, b, by omega, hbl, by go_num, rfl, fun m hm => ?_, h2'.out, hbw.trans (hb2.mono hbw.size)⟩
          exact hless.out m _ (by omega) (by omega) ho
        case measure => simp [intOf]; omega
      · have ho' : 0 ≤ ord (hold l ((a + b) / 2)) x := by omega
        go_wp2_with fail
        refine wp_region_wld (by kernel_rfl) (by kernel_rfl) ?_
        repeat (go_big_quiet_step ((go_at_call 107; refine calls_wld (hdOrder (hold l ((a + b) / 2)) x _))))
        refine wpQuiet_nil ?_
        intro W2 hw'
        have hb2 := below_of_cls hw'
        clear hw'
        go_wp2_with fail
        go_roundw
        case rel =>
          refine ⟨a, (a + b) / 2, by omega, by omega, rfl, by go_num, h1'.out, fun m hm hml => ?_, hbw.trans (hb2.mono hbw.size)⟩
          exact Int.not_lt.1 fun hn => by have := hless.out _ m hm hml hn; omega
        case measure => simp [intOf]; omega
    · obtain rfl : a = b := by omega
      have hpos : pos l x = a := pos_eq' hbl h1'.out h2'.out
      have hpos' := Lib.hid hpos
      have hB := hb0.trans (hbw.mono hb0.size)
      by_cases hal : a < l.length
      · have hBz : w.heap.size < wr.heap.size := Nat.lt_of_lt_of_le hsz hbw.size
        obtain ⟨y0, y1, y2, y3⟩ : wr.cell? ⟨w.heap.size, 0, none⟩ = some (.int .i64 x.order) ∧ wr.cell? ⟨w.heap.size, 1, none⟩ = some (.int .i64 x.line) ∧ wr.cell? ⟨w.heap.size, 2, none⟩ = some (.int .i64 x.bin) ∧ wr.cell? ⟨w.heap.size, 3, none⟩ = some (.int .i64 x.n) :=
          ⟨(hbw.cell (p := ⟨_, _, none⟩) hsz).trans z0, (hbw.cell (p := ⟨_, _, none⟩) hsz).trans z1, (hbw.cell (p := ⟨_, _, none⟩) hsz).trans z2, (hbw.cell (p := ⟨_, _, none⟩) hsz).trans z3⟩
        obtain ⟨hok, hAb, b0, b1, b2, b3⟩ := (hA.up hB hB.size).hold hal
        have q0 := fun o d os => cells_wld (w := wr) (b := w.heap.size) hBz o d os
        have qA := fun o d os => cells_wld (w := wr) (b := ablk A) hAb o d os
        have hf := Lib.hid (show found l x = (ord (hold l a) x == 0) by
          unfold found
          rw [hpos, decide_eq_true hal, Bool.true_and]
          rw [Bool.eq_iff_iff]; simp)
        clear hpos
        go_wp2_with fail
        refine wp_region_wld (by kernel_rfl) (by kernel_rfl) ?_
        repeat (go_big_quiet_step ((go_at_call 107; refine calls_wld (hdOrder (hold l a) x _))))
        refine wpQuiet_nil ?_
        intro W2 hw'
        have hb2 := below_of_cls hw'
        clear hw'
        go_wp2_with fail
        go_ret2
        exact ⟨ret2 (by rw [hpos'.out]; rfl) (by rw [hf.out]; rfl), hB.trans (hb2.mono hB.size)⟩
      · have hf := Lib.hid (show found l x = false by
          unfold found
          rw [hpos, decide_eq_false hal, Bool.false_and])
        obtain rfl : a = l.length := by omega
        clear hpos hal
        go_wp2_with fail
        refine wp_region_wld (by kernel_rfl) (by kernel_rfl) ?_
        repeat (go_big_quiet_step ((go_at_call 107; refine calls_wld (hdOrder (hold l a) x _))))
        refine wpQuiet_nil ?_
        intro W2 hw'
        have hb2 := below_of_cls hw'
        clear hw'
        go_wp2_with fail
        go_ret2
        exact ⟨ret2 (by rw [hpos'.out]; rfl) (by rw [hf.out]; rfl), hB.trans (hb2.mono hB.size)⟩

set_option maxHeartbeats 400000 in
theorem hdFind (w : World) (v : Value) (l : List Hold) (x : Hold) (hv : Sl cHold w w.heap.size v l) (hok : holdsOk l = true) (hn : l.length ≤ 1000000) :
    Calls Try.prog 67 #[v, vHold x] w fun e w' => e = .returned (.tuple #[.int .i64 (pos l x), .bool (found l x)]) ∧ Below w.heap.size w w' := by
  have hV := hv
  obtain ⟨A, c, rfl, hl, hA⟩ := hv
  have hok' := Lib.hid hok
  clear hok
  have hb0 : Below w.heap.size w (w.alloc (.cells #[.int .i64 (x).order, .int .i64 (x).line, .int .i64 (x).bin, .int .i64 (x).n] 63)) := (Below.refl _ _).alloc (Nat.le_refl _) _
  unfold vHold
  go_enter Try.func67, Try.ntmps67
  go_wp2_with fail
  refine (slSearch _ _ l x (hV.grow hb0) hok'.out hn).mono ?_
  rintro e W1 ⟨rfl, hb1⟩
  go_wp2_with fail
  go_ret2
  exact ⟨ret2 rfl rfl, hb0.trans (hb1.mono hb0.size)⟩
end Wh
namespace Wh
open Go Go.RowKit Go.Shelf Go.Proofs
attribute [local go_sem] run_indexAt_letter

theorem ins_flat {α : Type} (enc : α → List Value) (l : List α) (k : Nat) (x : α) : (l.take k ++ x :: l.drop k).flatMap enc = (l.take k).flatMap enc ++ enc x ++ (l.drop k).flatMap enc := by
  simp
theorem ins_length {α : Type} (l : List α) (k : Nat) (x : α) (h : k ≤ l.length) : (l.take k ++ x :: l.drop k).length = l.length + 1 := by
  simp; omega
/-- What an insertion gives. -/
def InsPost (base : Nat) (w : World) (l : List Hold) (e : Ending) (w' : World) : Prop := ∃ v', e = .returned v' ∧ Own cHold 4 63 w' base v' l ∧ Below base w w'

set_option maxHeartbeats 2000000 in
/-- At the end. -/
theorem insEnd (w : World) (base : Nat) (v : Value) (l : List Hold) (x : Hold) (vb : Nat) (hown : Own cHold 4 63 w base v l) (hn : l.length ≤ 100000) (hbase : base ≤ w.heap.size) (hx : Blk w vb 63 (cHold x)) :
    Calls Try.prog 122 #[v, .int .i64 l.length, .slice (some ⟨vb, 0, none⟩) 1 1] w (InsPost base w (l ++ [x])) := by
  have hcx : ∀ j u, (cHold x)[j]? = some u → w.cell? ((⟨vb, 0, none⟩ : Addr).add j) = some u := fun j u hj => by rw [Addr.add_lit, Nat.zero_add]; exact hx.cell hj
  obtain ⟨A, c, rfl⟩ := hown.isSlice
  by_cases h0 : l.length = 0
  · obtain rfl : l = [] := List.eq_nil_of_length_eq_zero h0
    have hA : A = none ∨ ∃ g cap, A = some ⟨g, 0, none⟩ ∧ c = cap := by
      rcases hown.2 with ⟨h1, _⟩ | ⟨g, cap, cur, h1, _⟩
      · left; simp at h1; exact h1.1
      · right; simp at h1; exact ⟨g, cap, h1.1, h1.2⟩
    have hcap : c ≤ 9223372036854775807 := by
      rcases hown.2 with ⟨h1, _⟩ | ⟨g, cap, cur, h1, _, _, _, h5, _⟩
      · simp at h1; omega
      · simp at h1; unfold maxLen at h5; omega
    rcases hA with rfl | ⟨g, cap, rfl, rfl⟩
    all_goals
      go_enter Try.func122, Try.ntmps122
      go_wp2_with (at_builtin; refine Hid.out ?_)
      all_goals
        unfold Hid
        refine wpList_push _ rfl (.tmp 23) (.tmp 24) 28 63 rfl base _ 4 32 Try.underlying28 infoHold rfl (by decide) (by decide) _ [] x rfl hown ⟨vb, 0, none⟩ 1 rfl rfl hcx (oneHold x) (by simp) hbase ?_
        intro v1 w1 hown1 hg1 hat1 hbel1
        go_wp2_with fail
        go_ret
        exact ⟨_, rfl, hown1, hbel1⟩
  · obtain ⟨g, cap, cur, hv, hbg, hg, hlc, hcm, hcs, htake⟩ := hown.row (by omega)
    injection hv with h1 h2 h3
    subst h1 h3
    have hcm' : c ≤ 9223372036854775807 := by unfold maxLen at hcm; omega
    have hg' := Lib.hid hg
    clear hcm hcs htake hg
    have hce : c = l.length ∨ l.length < c := by omega
    rcases hce with rfl | hce
    all_goals
      go_enter Try.func122, Try.ntmps122
      go_wp2_with (at_builtin; refine Hid.out ?_)
      unfold Hid
      refine wpList_push _ rfl (.tmp 23) (.tmp 24) 28 63 rfl base _ 4 32 Try.underlying28 infoHold rfl (by decide) (by decide) _ l x rfl hown ⟨vb, 0, none⟩ 1 rfl rfl hcx (oneHold x) (by omega) hbase ?_
      intro v1 w1 hown1 hg1 hat1 hbel1
      go_wp2_with fail
      go_ret
      exact ⟨_, rfl, hown1, hbel1⟩

set_option maxHeartbeats 4000000 in
set_option maxRecDepth 100000 in
/-- Ahead of others, with no room: a new row. -/
theorem insGrow (w : World) (base : Nat) (l : List Hold) (x : Hold) (k g vb : Nat) (cur : List Value) (hk : k < l.length) (hn : l.length ≤ 100000) (hbase : base ≤ w.heap.size)
    (hg : Blk w g 63 cur) (htake : cur = l.flatMap cHold) (hx : Blk w vb 63 (cHold x)) :
    Calls Try.prog 122 #[.slice (some ⟨g, 0, none⟩) l.length l.length, .int .i64 k, .slice (some ⟨vb, 0, none⟩) 1 1] w (InsPost base w (l.take k ++ x :: l.drop k)) := by
  have hk4 : ∀ x, (cHold x).length = 4 := fun _ => rfl
  obtain ⟨i0, hi0, hz0, hsz0, hby0⟩ := infoHold
  have hcx : ∀ j u, (cHold x)[j]? = some u → w.cell? ((⟨vb, 0, none⟩ : Addr).add j) = some u := fun j u hj => by rw [Addr.add_lit, Nat.zero_add]; exact hx.cell hj
  obtain ⟨G, hG⟩ : ∃ G, G = grownCap w (l.length + 1) l.length 63 := ⟨_, rfl⟩
  have hGn : l.length + 1 ≤ G := by rw [hG]; exact grownCap_ge w _ _ _
  have hGm : G ≤ maxLen := by rw [hG]; exact grownCap_le_maxLen w _ _ _ (by unfold maxLen; omega)
  have hG63 : G ≤ 9223372036854775807 := by unfold maxLen at hGm; omega
  have hzl : ∀ n, (Builtin.zeroCells #[.int .i64 0, .int .i64 0, .int .i64 0, .int .i64 0] n).toList.length = n * 4 := fun n => by rw [Array.length_toList]; exact zeroCells_length _ n
  obtain ⟨R, hR⟩ : ∃ R : List Value, R = (l.take k).flatMap cHold ++ (Builtin.zeroCells #[.int .i64 0, .int .i64 0, .int .i64 0, .int .i64 0] (l.length + 1 - k)).toList ++ (Builtin.zeroCells #[.int .i64 0, .int .i64 0, .int .i64 0, .int .i64 0] (G - (l.length + 1))).toList := ⟨_, rfl⟩
  have hRl : R.length = G * 4 := by
    rw [hR, List.length_append, List.length_append, flat_length cHold 4 hk4, List.length_take, hzl, hzl]
    omega
  have hold : (Builtin.firstCells i0.size k (.slice (some ⟨g, 0, none⟩) k l.length)).run Try.prog w.drew = .ok ((l.take k).flatMap cHold).toArray w.drew := by
    rw [hsz0]
    exact run_firstCells_some w.drew 4 k ⟨g, 0, none⟩ k l.length ((l.take k).flatMap cHold) (by rw [flat_length cHold 4 hk4, List.length_take]; omega) (fun j v hj => by
      rw [Addr.add_lit, Nat.zero_add]
      refine hg.drew.cell ?_
      rw [← flat_take cHold 4 hk4, List.getElem?_take] at hj
      split at hj
      · rw [htake]; exact hj
      · cases hj)
  have hrz : ∀ ty, (Builtin.append_ #[28, 3] ty #[.slice (some ⟨g, 0, none⟩) k l.length, .int .i64 ((l.length : Int) + 1 - (k : Int))]).run Try.prog w =
      .ok (.slice (some ⟨w.heap.size, 0, none⟩) (l.length + 1) G) (w.drew.alloc (.cells R.toArray 63)) := fun ty => by
    have h := Lib.run_append_grow_zeros w 28 3 ty 63 i0 _ .i64 .i64 Try.underlying28 Try.underlying3 hi0 hz0 (some ⟨g, 0, none⟩) k l.length ((l.take k).flatMap cHold) hold (l.length + 1 - k) (by omega) (by omega) (by omega) (by omega) (by rw [hby0]; omega)
      (by rw [hby0, show k + (l.length + 1 - k) = l.length + 1 by omega]; exact growslice_fits (by omega) (by omega))
    rw [show k + (l.length + 1 - k) = l.length + 1 by omega, ← hG, show ((l.length + 1 - k : Nat) : Int) = (l.length : Int) + 1 - (k : Int) by omega] at h
    rw [h, hR]
    congr 3
    apply Array.ext'
    simp [Value.cells]
  obtain ⟨W1, hW1⟩ : ∃ W1, W1 = w.drew.alloc (.cells R.toArray 63) := ⟨_, rfl⟩
  rw [← hW1] at hrz
  have hN : Blk W1 w.heap.size 63 R := by rw [hW1]; exact Blk.new w.drew _ R.toArray
  have hgW : Blk W1 g 63 cur := by
    rw [hW1]
    exact hg.drew.alloc _
  have hxW : Blk W1 vb 63 (cHold x) := by
    rw [hW1]
    exact hx.drew.alloc _
  have hs4 : (Try.prog.info? 63).map (·.size) = some 4 := by rw [hi0]; simp [hsz0]
  have hR1 : (spl R (k * 4) (cHold x)).length = R.length := spl_length (by rw [hk4, hRl]; omega)
  have hcp1 : ∀ ty, (Builtin.copy_ #[28, 28] ty #[.slice (some ⟨w.heap.size, k * 4, none⟩) (l.length + 1 - k) (G - k), .slice (some ⟨vb, 0, none⟩) 1 1]).run Try.prog W1 = .ok (goInt 1) (W1.setRow w.heap.size (spl R (k * 4) (cHold x)).toArray) := fun ty =>
    run_copy_blk (P := Try.prog) W1 _ _ ty 63 4 w.heap.size (k * 4) _ _ ⟨vb, 0, none⟩ 1 1 R 63 (cHold x) Try.underlying28 hs4 hN 1 (by simp only [Nat.min_def]; split <;> omega) (hk4 x) (fun j u hj => by rw [Addr.add_lit, Nat.zero_add]; exact hxW.cell hj) (by rw [hk4, hRl]; omega) (oneHold x)
  obtain ⟨W2, hW2⟩ : ∃ W2, W2 = W1.setRow w.heap.size (spl R (k * 4) (cHold x)).toArray := ⟨_, rfl⟩
  rw [← hW2] at hcp1
  have hN2 : Blk W2 w.heap.size 63 (spl R (k * 4) (cHold x)) := by rw [hW2]; exact hN.row _
  have hgW2 : Blk W2 g 63 cur := by rw [hW2]; exact hgW.other (by have := hg.lt; omega) _
  have hds : (l.drop k).flatMap cHold = cur.drop (k * 4) := by rw [htake, flat_drop cHold 4 hk4]
  have hdl : ((l.drop k).flatMap cHold).length = (l.length - k) * 4 := by rw [flat_length cHold 4 hk4, List.length_drop]
  have hcp2 : ∀ (W : World), W.heap = W2.heap → ∀ ty, (Builtin.copy_ #[28, 28] ty #[.slice (some ⟨w.heap.size, (k + 1) * 4, none⟩) (l.length + 1 - (k + 1)) (G - (k + 1)), .slice (some ⟨g, k * 4, none⟩) (l.length - k) (l.length - k)]).run Try.prog W =
      .ok (goInt (l.length - k : Nat)) (W.setRow w.heap.size (spl (spl R (k * 4) (cHold x)) ((k + 1) * 4) ((l.drop k).flatMap cHold)).toArray) := fun W hW ty =>
    run_copy_blk (P := Try.prog) W _ _ ty 63 4 w.heap.size ((k + 1) * 4) _ _ ⟨g, k * 4, none⟩ _ _ (spl R (k * 4) (cHold x)) 63 ((l.drop k).flatMap cHold) Try.underlying28 hs4 (by unfold Blk; rw [hW]; exact hN2) (l.length - k) (by simp only [Nat.min_def]; split <;> omega) hdl
      (fun j u hj => by
        rw [Addr.add_lit]
        have hgW3 : Blk W g 63 cur := by unfold Blk; rw [hW]; exact hgW2
        refine hgW3.cell ?_
        rw [hds, List.getElem?_drop] at hj
        exact hj)
      (by rw [hdl, hR1, hRl]; omega) (fun u hu => by
        obtain ⟨y, _, hy⟩ := List.mem_flatMap.1 hu
        exact oneHold y u hy)
  have hfin : ∀ (W : World), W.heap = W2.heap → W.os = W2.os → W.tape = W2.tape → W.output = W2.output → InsPost base w (l.take k ++ x :: l.drop k) (.returned (.slice (some ⟨w.heap.size, 0, none⟩) (l.length + 1) G)) (W.setRow w.heap.size (spl (spl R (k * 4) (cHold x)) ((k + 1) * 4) ((l.drop k).flatMap cHold)).toArray) := by
    intro W hW e1 e2 e3
    have hNW : Blk W w.heap.size 63 (spl R (k * 4) (cHold x)) := by unfold Blk; rw [hW]; exact hN2
    refine ⟨_, rfl, ?_, ?_⟩
    · rw [show l.length + 1 = (l.take k ++ x :: l.drop k).length from (ins_length l k x (by omega)).symm]
      refine Own.of_row hk4 hbase (hNW.row _) (by rw [ins_length l k x (by omega)]; omega) hGm (by rw [spl_length (by rw [hdl, hR1, hRl]; omega), hR1, hRl]) ?_
      rw [ins_length l k x (by omega), ins_flat, show (l.length + 1) * 4 = (k + 1) * 4 + ((l.drop k).flatMap cHold).length by rw [hdl]; omega, spl_hi (by rw [hR1, hRl]; omega)]
      rw [show (k + 1) * 4 = k * 4 + (cHold x).length by rw [hk4]; omega, spl_hi (by rw [hRl]; omega), hR, List.append_assoc, List.append_assoc, List.take_append_of_le_length (by rw [flat_length cHold 4 hk4, List.length_take]; omega), List.take_of_length_le (by rw [flat_length cHold 4 hk4, List.length_take]; omega), List.append_assoc]
    · have b1 : Below base w W2 := by
        rw [hW2, hW1]
        exact below_row ((((Below.refl base w).drew).alloc hbase _)) hbase _
      have b2 : Below base w W := ⟨e1.trans b1.os, e2.trans b1.tape, e3.trans b1.output, by rw [hW]; exact b1.size, fun q hq => by rw [hW]; exact b1.block q hq⟩
      exact below_row b2 hbase _
  have hfin' := Lib.hid hfin
  have hcp1' : ∀ (W : World), W = W1 → ∀ ty, (Builtin.copy_ #[28, 28] ty #[.slice (some ⟨w.heap.size, k * 4, none⟩) (l.length + 1 - k) (G - k), .slice (some ⟨vb, 0, none⟩) 1 1]).run Try.prog W = .ok (goInt 1) W2 := fun W hW ty => by rw [hW]; exact hcp1 ty
  have hW1' : w.drew.alloc (.cells R.toArray 63) = W1 := hW1.symm
  have hw1 : IntKind.i64.wrap ((k : Int) + 1) = (k : Int) + 1 := by rw [IntKind.wrap_i64]; omega
  have hb1 : (0 : Int) ≤ (k : Int) + 1 := by omega
  have hb2 : (k : Int) + 1 ≤ (l.length : Int) + 1 := by omega
  have hb3 : (k : Int) ≤ (l.length : Int) := by omega
  have htn : ((k : Int) + 1).toNat = k + 1 := by omega
  have hGk : ¬ (G = k) := by omega
  have hGk1 : ¬ (G = k + 1) := by omega
  have hlk : ¬ (l.length = k) := by omega
  have hkl : ¬ ((k : Int) = (l.length : Int)) := by omega
  clear hfin hcp1 hW1 hW2 hN hgW hxW hN2 hgW2 hds hdl hR1 hRl hR hold hG hGm hi0 htake hcx hg hx hs4
  go_enter Try.func122, Try.ntmps122
  go_wp2_with (first
    | (at_builtin; refine Lib.wpList_append_run _ rfl _ _ _ _ rfl _ _ rfl rfl _ _ (hrz _) ?_)
    | (refine wpList_copy_at _ rfl _ _ 28 28 rfl _ _ rfl rfl (hcp1' _ rfl _) ?_))
  go_region_law (refine step_copy_at _ rfl (.tmp 50) (.tmp 53) 28 28 rfl (.slice (some ⟨w.heap.size, (k + 1) * 4, none⟩) (l.length + 1 - (k + 1)) (G - (k + 1))) (.slice (some ⟨g, k * 4, none⟩) (l.length - k) (l.length - k)) (by simp [Act.eval, Act.put]) (by simp [Act.eval, Act.put]) (hcp2 W2.drew rfl _) ?_)
  go_wp2_with fail
  go_ret
  exact hfin'.out W2.drew rfl rfl rfl rfl

theorem spl_drop {L : List Value} {o : Nat} {cs : List Value} (h : o ≤ L.length) : (spl L o cs).drop o = cs ++ L.drop (o + cs.length) := by
  unfold spl
  rw [List.append_assoc, List.drop_append_of_le_length (by rw [List.length_take]; omega), List.drop_of_length_le (by rw [List.length_take]; omega), List.nil_append]

set_option maxHeartbeats 4000000 in
set_option maxRecDepth 100000 in
/-- Ahead of others, with room: in place. -/
theorem insShift (w : World) (base : Nat) (l : List Hold) (x : Hold) (k g vb cap : Nat) (cur : List Value) (hk : k < l.length) (hn : l.length ≤ 100000) (hbg : base ≤ g) (hroom : l.length + 1 ≤ cap) (hcm : cap ≤ maxLen) (hvb : vb ≠ g)
    (hg : Blk w g 63 cur) (hcs : cur.length = cap * 4) (htake : cur.take (l.length * 4) = l.flatMap cHold) (hx : Blk w vb 63 (cHold x)) :
    Calls Try.prog 122 #[.slice (some ⟨g, 0, none⟩) l.length cap, .int .i64 k, .slice (some ⟨vb, 0, none⟩) 1 1] w (InsPost base w (l.take k ++ x :: l.drop k)) := by
  have hk4 : ∀ x, (cHold x).length = 4 := fun _ => rfl
  obtain ⟨i0, hi0, hz0, hsz0, hby0⟩ := infoHold
  have hs4 : (Try.prog.info? 63).map (·.size) = some 4 := by rw [hi0]; simp [hsz0]
  have hcap63 : cap ≤ 9223372036854775807 := by unfold maxLen at hcm; omega
  obtain ⟨D, hD⟩ : ∃ D, D = (l.drop k).flatMap cHold := ⟨_, rfl⟩
  have hDl : D.length = (l.length - k) * 4 := by rw [hD, flat_length cHold 4 hk4, List.length_drop]
  have hD1 : ∀ u ∈ D, u.oneCell' = true := fun u hu => by
    rw [hD] at hu
    obtain ⟨y, _, hy⟩ := List.mem_flatMap.1 hu
    exact oneHold y u hy
  have hov : ∀ lb cb, (callFunc 127 #[.slice (some ⟨vb, 0, none⟩) 1 1, .slice (some ⟨g, (k + 1) * 4, none⟩) lb cb]).run Try.prog w = .ok (.value (.bool false)) w := fun lb cb => by
    rw [run_callFunc_extern (fn := Try.f127) (by kernel_rfl) (by kernel_rfl) (by kernel_rfl) (by kernel_rfl) (e := Extern.SlicesOverlaps.overlaps #[28, 28] #[4]) (by kernel_rfl),
      Lib.run_overlaps_apart w 28 4 63 Try.underlying28 4 Try.sizeOf63 ⟨vb, 0, none⟩ ⟨g, (k + 1) * 4, none⟩ 1 1 lb cb hvb _ _ _ _ hx.shape hg.shape (by rw [hcs]; omega) (hx.frozen _) (hx.frozen _)]
    rfl
  have hsrc : ∀ j v, D[j]? = some v → w.drew.cell? ((⟨g, k * 4, none⟩ : Addr).add j) = some v := fun j v hj => by
    rw [Addr.add_lit]
    refine hg.drew.cell ?_
    rw [hD, ← flat_drop cHold 4 hk4, ← htake, List.getElem?_drop, List.getElem?_take] at hj
    split at hj
    · exact hj
    · cases hj
  have hcp1 : ∀ ty, (Builtin.copy_ #[28, 28] ty #[.slice (some ⟨g, (k + 1) * 4, none⟩) (l.length + 1 - (k + 1)) (cap - (k + 1)), .slice (some ⟨g, k * 4, none⟩) (l.length + 1 - k) (cap - k)]).run Try.prog w.drew =
      .ok (goInt (l.length - k : Nat)) (w.drew.setRow g (spl cur ((k + 1) * 4) D).toArray) := fun ty =>
    run_copy_blk (P := Try.prog) w.drew _ _ ty 63 4 g ((k + 1) * 4) _ _ ⟨g, k * 4, none⟩ _ _ cur 63 D Try.underlying28 hs4 hg.drew (l.length - k) (by simp only [Nat.min_def]; split <;> omega) hDl hsrc (by rw [hDl, hcs]; omega) hD1
  obtain ⟨W1, hW1⟩ : ∃ W1, W1 = w.drew.setRow g (spl cur ((k + 1) * 4) D).toArray := ⟨_, rfl⟩
  rw [← hW1] at hcp1
  have hM : (spl cur ((k + 1) * 4) D).length = cap * 4 := by rw [spl_length (by rw [hDl, hcs]; omega), hcs]
  have hg1 : Blk W1 g 63 (spl cur ((k + 1) * 4) D) := by rw [hW1]; exact hg.drew.row _
  have hx1 : Blk W1 vb 63 (cHold x) := by rw [hW1]; exact hx.drew.other hvb _
  have hcp2 : ∀ ty, (Builtin.copy_ #[28, 28] ty #[.slice (some ⟨g, k * 4, none⟩) (l.length + 1 - k) (cap - k), .slice (some ⟨vb, 0, none⟩) 1 1]).run Try.prog W1 = .ok (goInt 1) (W1.setRow g (spl (spl cur ((k + 1) * 4) D) (k * 4) (cHold x)).toArray) := fun ty =>
    run_copy_blk (P := Try.prog) W1 _ _ ty 63 4 g (k * 4) _ _ ⟨vb, 0, none⟩ 1 1 _ 63 (cHold x) Try.underlying28 hs4 hg1 1 (by simp only [Nat.min_def]; split <;> omega) (hk4 x) (fun j u hj => by rw [Addr.add_lit, Nat.zero_add]; exact hx1.cell hj) (by rw [hk4, hM]; omega) (oneHold x)
  have hfin : InsPost base w (l.take k ++ x :: l.drop k) (.returned (.slice (some ⟨g, 0, none⟩) (l.length + 1) cap)) (W1.setRow g (spl (spl cur ((k + 1) * 4) D) (k * 4) (cHold x)).toArray) := by
    refine ⟨_, rfl, ?_, ?_⟩
    · rw [show l.length + 1 = (l.take k ++ x :: l.drop k).length from (ins_length l k x (by omega)).symm]
      refine Own.of_row hk4 hbg (hg1.row _) (by rw [ins_length l k x (by omega)]; omega) hcm (by rw [spl_length (by rw [hk4, hM]; omega), hM]) ?_
      rw [ins_length l k x (by omega), ins_flat]
      have e1 : spl (spl cur ((k + 1) * 4) D) (k * 4) (cHold x) = (cur.take (k * 4) ++ cHold x) ++ (D ++ cur.drop ((k + 1) * 4 + D.length)) := by
        have a1 : spl (spl cur ((k + 1) * 4) D) (k * 4) (cHold x) = (spl cur ((k + 1) * 4) D).take (k * 4) ++ cHold x ++ (spl cur ((k + 1) * 4) D).drop (k * 4 + (cHold x).length) := rfl
        have a2 : (spl cur ((k + 1) * 4) D).take (k * 4) = cur.take (k * 4) := by
          have : (spl cur ((k + 1) * 4) D).take (k * 4) = ((spl cur ((k + 1) * 4) D).take ((k + 1) * 4)).take (k * 4) := by rw [List.take_take, Nat.min_eq_left (by omega)]
          rw [this, spl_lo (by rw [hcs]; omega), List.take_take, Nat.min_eq_left (by omega)]
        rw [a1, a2, hk4, show k * 4 + 4 = (k + 1) * 4 by omega, spl_drop (by rw [hcs]; omega)]
      have e2 : cur.take (k * 4) = (l.take k).flatMap cHold := by
        have : cur.take (k * 4) = (cur.take (l.length * 4)).take (k * 4) := by rw [List.take_take, Nat.min_eq_left (by omega)]
        rw [this, htake, flat_take cHold 4 hk4]
      rw [e1, e2, ← List.append_assoc, List.take_append_of_le_length (by simp only [List.length_append, hDl, flat_length cHold 4 hk4, List.length_take, hk4]; omega), List.take_of_length_le (by simp only [List.length_append, hDl, flat_length cHold 4 hk4, List.length_take, hk4]; omega), hD]
    · rw [hW1]
      exact below_row (below_row (Below.refl base w).drew hbg _) hbg _
  have hfin' := Lib.hid hfin
  have hw1 : IntKind.i64.wrap ((k : Int) + 1) = (k : Int) + 1 := by rw [IntKind.wrap_i64]; omega
  have hb1 : (0 : Int) ≤ (k : Int) + 1 := by omega
  have hb2 : (k : Int) + 1 ≤ (l.length : Int) + 1 := by omega
  have hb3 : (k : Int) ≤ (l.length : Int) := by omega
  have hb4 : (k : Int) ≤ (l.length : Int) + 1 := by omega
  have htn : ((k : Int) + 1).toNat = k + 1 := by omega
  have hGk : ¬ (cap = k) := by omega
  have hGk1 : ¬ (cap = k + 1) := by omega
  have hkl : ¬ ((k : Int) = (l.length : Int)) := by omega
  clear hfin hW1 hg1 hx1 hD hDl hD1 hsrc hM hi0 htake hcs hg hx hs4 hcm
  go_enter Try.func122, Try.ntmps122
  go_wp2_with (simp only [hov])
  go_region_law (refine step_copy_at _ rfl (.tmp 73) (.tmp 76) 28 28 rfl (.slice (some ⟨g, (k + 1) * 4, none⟩) (l.length + 1 - (k + 1)) (cap - (k + 1))) (.slice (some ⟨g, k * 4, none⟩) (l.length + 1 - k) (cap - k)) (by simp [Act.eval, Act.put]) (by simp [Act.eval, Act.put]) (hcp1 _) ?_)
  go_wp2_with (refine wpList_copy_at _ rfl _ _ 28 28 rfl _ _ rfl rfl (hcp2 _) ?_)
  go_ret
  exact hfin'.out

/-- slices.Insert at holds, one of them. -/
theorem insHold (w : World) (base : Nat) (v : Value) (l : List Hold) (x : Hold) (k vb : Nat) (hown : Own cHold 4 63 w base v l) (hk : k ≤ l.length) (hn : l.length ≤ 100000) (hbase : base ≤ w.heap.size) (hx : Blk w vb 63 (cHold x)) (hvb : v.ownBlock ≠ some vb) :
    Calls Try.prog 122 #[v, .int .i64 k, .slice (some ⟨vb, 0, none⟩) 1 1] w (InsPost base w (l.take k ++ x :: l.drop k)) := by
  rcases Nat.lt_or_eq_of_le hk with hlt | rfl
  · obtain ⟨g, cap, cur, rfl, hbg, hg, hlc, hcm, hcs, htake⟩ := hown.row (by omega)
    rcases Nat.lt_or_eq_of_le hlc with h1 | rfl
    · exact insShift w base l x k g vb cap cur hlt hn hbg h1 hcm (fun e => hvb (by rw [e]; rfl)) hg hcs htake hx
    · exact insGrow w base l x k g vb cur hlt hn hbase hg (by rw [← htake, List.take_of_length_le (by omega)]) hx
  · have h := insEnd w base v l x vb hown hn hbase hx
    rw [List.take_length, List.drop_length]
    exact h
end Wh
