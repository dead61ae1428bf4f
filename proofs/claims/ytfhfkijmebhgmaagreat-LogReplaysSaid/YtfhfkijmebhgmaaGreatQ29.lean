/- Texts of the claim, joined: FillQ, FillR, FillC, FillD, FillS. -/
import Derived.BigQuiet
import Derived.WalkMore
import Derived.Test.YtfhfkijmebhgmaaGreatQ24
import Derived.Test.YtfhfkijmebhgmaaGreatQ28
import Derived.Test.YtfhfkijmebhgmaaGreatQ12
import Derived.Test.YtfhfkijmebhgmaaGreatQ15
namespace Wh
open Go Go.RowKit Go.Shelf Go.Proofs
attribute [local go_sem] run_indexAt_letter
attribute [local go_sem] Oper.semAt_some

/-- A bin of one kind. -/
abbrev BinK (p : Plan) (f : Bool) : Type := { x : Nat // x < p.bins.length ∧ (binAt p.bins x).front = f }
def kindsX (p : Plan) (f : Bool) : Nat → List (BinK p f)
  | 0 => []
  | k + 1 => if h : k < p.bins.length ∧ (binAt p.bins k).front = f then kindsX p f k ++ [(⟨k, h⟩ : BinK p f)] else kindsX p f k
theorem kindsX_yes {p : Plan} {f : Bool} {k : Nat} (h1 : k < p.bins.length) (h2 : (binAt p.bins k).front = f) : kindsX p f (k + 1) = kindsX p f k ++ [⟨k, h1, h2⟩] := by
  show (if h : k < p.bins.length ∧ (binAt p.bins k).front = f then kindsX p f k ++ [(⟨k, h⟩ : BinK p f)] else kindsX p f k) = _
  rw [dif_pos ⟨h1, h2⟩]
theorem kindsX_no {p : Plan} {f : Bool} {k : Nat} (h : (binAt p.bins k).front ≠ f) : kindsX p f (k + 1) = kindsX p f k := by
  show (if h : k < p.bins.length ∧ (binAt p.bins k).front = f then kindsX p f k ++ [(⟨k, h⟩ : BinK p f)] else kindsX p f k) = _
  rw [dif_neg (fun hh => h hh.2)]
theorem kindsX_val (p : Plan) (f : Bool) : ∀ k, k ≤ p.bins.length → (kindsX p f k).map Subtype.val = kindsTo p f k
  | 0, _ => rfl
  | k + 1, hk => by
    have ih := kindsX_val p f k (by omega)
    by_cases hf : (binAt p.bins k).front = f
    · rw [kindsX_yes (by omega) hf, kindsTo_yes hf, List.map_append, ih]
      rfl
    · rw [kindsX_no hf, kindsTo_no hf, ih]
theorem kindsX_length (p : Plan) (f : Bool) : ∀ k, (kindsX p f k).length ≤ k
  | 0 => Nat.le_refl _
  | k + 1 => by
    have ih := kindsX_length p f k
    show (if h : k < p.bins.length ∧ (binAt p.bins k).front = f then kindsX p f k ++ [(⟨k, h⟩ : BinK p f)] else kindsX p f k).length ≤ k + 1
    split
    · rw [List.length_append, List.length_singleton]; omega
    · omega
theorem kindsX_pre (p : Plan) (f : Bool) : ∀ n k, k ≤ n → ∃ r, kindsX p f n = kindsX p f k ++ r
  | 0, k, h => by
    obtain rfl : k = 0 := by omega
    exact ⟨[], rfl⟩
  | n + 1, k, h => by
    by_cases he : k = n + 1
    · exact ⟨[], by rw [he, List.append_nil]⟩
    · obtain ⟨r, hr⟩ := kindsX_pre p f n k (by omega)
      by_cases hh : n < p.bins.length ∧ (binAt p.bins n).front = f
      · exact ⟨r ++ [⟨n, hh⟩], by rw [kindsX_yes hh.1 hh.2, hr, List.append_assoc]⟩
      · refine ⟨r, ?_⟩
        rw [← hr]
        show (if h : n < p.bins.length ∧ (binAt p.bins n).front = f then kindsX p f n ++ [(⟨n, h⟩ : BinK p f)] else kindsX p f n) = _
        rw [dif_neg hh]

set_option maxRecDepth 100000 in
set_option maxHeartbeats 2000000 in
theorem bins1_inX (F : Fence) (n : Nat) (h7 : F.fn 156) (hro : F.round = none) (hn : 1 ≤ n) (l Bp Bf n₀ : Nat) (p : Plan) (f : Bool) (Ab As : Option Addr) (cb cs : Nat) (hlb : p.bins.length ≤ 6) (J Jx : List (BinK p f) → World → Prop)
    (hY : ∀ (pre : List (BinK p f)) (x : BinK p f) W, J pre W → pre.length < p.bins.length → YieldAt F (n - 1) Tryz.prog l #[.int .i64 ((x.1 : Nat) : Int)] W fun e W' =>
      (e = .returned (.bool true) ∧ J (pre ++ [x]) W' ∧ KpB n₀ Bf W W') ∨ (e = .returned (.bool false) ∧ Jx (pre ++ [x]) W'))
    (W : World) (hn0 : n₀ ≤ W.heap.size) (hJ : AbidesFrom W.heap.size J) (hBf : Bf < W.heap.size) (hp0 : W.cell? ⟨Bp, 0, none⟩ = some (.slice Ab p.bins.length cb)) (_ : W.cell? ⟨Bp, 1, none⟩ = some (.slice As p.sizes.length cs))
    (hf : W.cell? ⟨Bf, 0, none⟩ = some (.bool f)) (hA : At W n₀ Ab (p.bins.flatMap cBin)) (h0 : J [] W) :
    CallsIn F n Tryz.prog 156 #[.func (.yield l) #[] #[], .pointer (some ⟨Bp, 0, none⟩), .pointer (some ⟨Bf, 0, none⟩)] W fun e W' => (∃ v, e = .returned v) ∧
      ((∃ ys, ys = kindsX p f p.bins.length ∧ J ys W') ∨ (∃ pre, (∃ k, k ≤ p.bins.length ∧ pre = kindsX p f k) ∧ Jx pre W')) := by
  refine callsIn_of_wp Tryz.func156 rfl h7 ?_ hro
  simp only [Tryz.ntmps156, List.size_toArray, List.length_cons, List.length_nil, Nat.reduceAdd, Nat.reduceSub, Array.replicate_succ, Array.replicate_zero, List.push_toArray, List.append_toArray, List.nil_append, List.cons_append]
  gi_wp2
  gi_loopw [9] (fun i wr => ∃ k : Nat, k ≤ p.bins.length ∧ i = .int .i64 k ∧ J (kindsX p f k) wr ∧ KpB n₀ Bf W wr)
    (fun i _ => p.bins.length - (intOf i).toNat)
  case atStart => exact ⟨0, Nat.zero_le _, rfl, h0, Below.refl _ _, rfl⟩
  case round =>
    obtain ⟨k, hk, rfl, hJs, hnx, hnf⟩ := hrel
    by_cases hlt : k < p.bins.length
    · obtain ⟨hok, hAb, b0, b1, b2, b3⟩ := (hA.up hnx (Nat.le_refl _)).bin hlt
      have g0 := hnf.trans hf
      have hBw : Bf < wr.heap.size := by have := hnx.size; omega
      have hJa := hJ _ _ _ none hJs (World.grownBy_alloc wr (.cells #[.bool (binAt p.bins k).front, .int .i64 (binAt p.bins k).room, .int .i64 (binAt p.bins k).low, .int .i64 (binAt p.bins k).high] 125) none) (fun r h => by cases h)
      have hBa : Below n₀ wr (wr.alloc (.cells #[.bool (binAt p.bins k).front, .int .i64 (binAt p.bins k).room, .int .i64 (binAt p.bins k).low, .int .i64 (binAt p.bins k).high] 125)) := (Below.refl _ _).alloc (by have := hnx.size; omega) _
      have hca : (wr.alloc (.cells #[.bool (binAt p.bins k).front, .int .i64 (binAt p.bins k).room, .int .i64 (binAt p.bins k).low, .int .i64 (binAt p.bins k).high] 125)).cell? ⟨Bf, 0, none⟩ = wr.cell? ⟨Bf, 0, none⟩ :=
        ((Below.refl wr.heap.size wr).alloc (Nat.le_refl _) _).cell (p := ⟨Bf, 0, none⟩) hBw
      cases hfr : ((binAt p.bins k).front == f)
      · have hno := kindsX_no (p := p) (f := f) (k := k) (by simpa using hfr)
        gi_wp2
        refine ⟨fun _ h => (by cases h), ?_⟩
        gi_wp2
        go_roundw
        case rel => exact ⟨k + 1, by omega, by simp, by rw [hno]; exact hJa, hnx.trans hBa, hca.trans hnf⟩
        case measure => simp [intOf]; omega
      · have hfk := Lib.hid (show (binAt p.bins k).front = f by simpa using hfr)
        have hyes := kindsX_yes hlt hfk.out
        obtain ⟨fn, tmps, assign, body, hy, hR⟩ : YieldAt F (n - 1) Tryz.prog l #[.int .i64 ((k : Nat) : Int)] _ _ := hY _ ⟨k, hlt, hfk.out⟩ _ hJa (by have := kindsX_length p f k; omega)
        gi_wp2
        refine hR.mono ?_
        rintro e W3 (⟨rfl, hJ3, hk3⟩ | ⟨rfl, hJx3⟩)
        · gi_wp2
          go_roundw
          case rel => exact ⟨k + 1, by omega, by simp, by rw [hyes]; exact hJ3, (hnx.trans hBa).trans hk3.1, (hk3.2.trans hca).trans hnf⟩
          case measure => simp [intOf]; omega
        · gi_wp2
          refine bodyPost_ret (results_none rfl _ _ _) rfl ?_
          exact ⟨⟨_, rfl⟩, .inr ⟨_, ⟨k + 1, by omega, hyes.symm⟩, hJx3⟩⟩
    · obtain rfl : k = p.bins.length := by omega
      gi_wp2
      go_end0
      exact ⟨⟨_, rfl⟩, .inl ⟨_, rfl, hJs⟩⟩

theorem bins_stopsX (F : Fence) (n : Nat) (h7 : F.fn 156) (hro : F.round = none) (hn : 1 ≤ n) (Bp Bf n₀ : Nat) (p : Plan) (f : Bool) (Ab As : Option Addr) (cb cs : Nat) (hlb : p.bins.length ≤ 6) (w : World) (hn0 : n₀ ≤ w.heap.size) (hBp : Bp < w.heap.size) (hBf : Bf < w.heap.size)
    (hp0 : w.cell? ⟨Bp, 0, none⟩ = some (.slice Ab p.bins.length cb)) (hp1 : w.cell? ⟨Bp, 1, none⟩ = some (.slice As p.sizes.length cs)) (hf : w.cell? ⟨Bf, 0, none⟩ = some (.bool f)) (hA : At w n₀ Ab (p.bins.flatMap cBin)) :
    SeqStopsK F n Tryz.prog 156 #[.pointer (some ⟨Bp, 0, none⟩), .pointer (some ⟨Bf, 0, none⟩)] (fun x : BinK p f => #[Value.int .i64 ((x.1 : Nat) : Int)]) (KpB n₀ Bf) (fun ys => ys = kindsX p f p.bins.length) (fun pre => ∃ k, k ≤ p.bins.length ∧ pre = kindsX p f k) p.bins.length w := fun l J Jx W hW hJ _ hY h0 =>
  bins1_inX F n h7 hro hn l Bp Bf n₀ p f Ab As cb cs hlb J Jx hY W (Nat.le_trans hn0 hW.size) hJ (Nat.lt_of_lt_of_le hBf hW.size) ((hW.cell (p := ⟨Bp, 0, none⟩) hBp).trans hp0) ((hW.cell (p := ⟨Bp, 1, none⟩) hBp).trans hp1)
    ((hW.cell (p := ⟨Bf, 0, none⟩) hBf).trans hf) (hA.up (hW.mono hn0) (Nat.le_refl _)) h0

section
variable {w w' : World} {base : Nat}
/-- Another thing than cells was written. -/
theorem Own.noncell {α : Type} {enc : α → List Value} {size : Nat} {e : TypeId} {v : Value} {l : List α} {row : Option Nat} (h : Own enc size e w base v l) (hg : w.grownBy w' row) (hr : ∀ r, row = some r → ∃ o : Obj, w.heap[r]? = some o ∧ o.isCells = false) : Own enc size e w' base v l := by
  refine h.kept hg ?_
  cases hv : v.ownBlock with
  | none => exact .inl rfl
  | some g =>
    refine .inr fun he => ?_
    obtain ⟨cur, hc⟩ := h.block hv
    obtain ⟨o, ho, hn⟩ := hr g he.symm
    rw [hc] at ho
    injection ho with ho
    subst ho
    cases hn
theorem OwnSt.noncell {V : SV} {s : State} {row : Option Nat} (h : OwnSt w base V s) (hg : w.grownBy w' row) (hr : ∀ r, row = some r → ∃ o : Obj, w.heap[r]? = some o ∧ o.isCells = false) : OwnSt w' base V s :=
  ⟨h.on.noncell hg hr, h.rlen, fun b hlt => (h.row b hlt).noncell hg hr, h.orders.noncell hg hr, h.llen, fun o ho => (h.line o ho).noncell hg hr, h.holds.noncell hg hr, h.moves.noncell hg hr, h.inn.noncell hg hr, h.out.noncell hg hr, h.fixed.noncell hg hr, h.apart, h.apartl⟩
theorem Bx.noncell {b : Nat} {t : TypeId} {rest : List Value} {V : SV} {s : State} {row : Option Nat} (h : Bx w base b t rest V s) (hg : w.grownBy w' row) (hr : ∀ r, row = some r → ∃ o : Obj, w.heap[r]? = some o ∧ o.isCells = false) : Bx w' base b t rest V s := by
  refine ⟨h.box.grown hg fun he => ?_, h.own.noncell hg hr, h.ty⟩
  obtain ⟨o, ho, hn⟩ := hr b he.symm
  have hb : w.heap[b]? = _ := h.box
  rw [hb] at ho
  injection ho with ho
  subst ho
  cases hn
end
end Wh
namespace Wh
open Go Go.RowKit Go.Shelf Go.Proofs

theorem keeps_cells {B : Nat} {W W' : World} {row : Option Nat} (hg : W.grownBy W' row) (hr : ∀ r, row = some r → ∃ cs t sp, W.heap[r]? = some (.cells cs t sp)) : KeepsFrom B W W' :=
  ⟨hg.size, fun k o _ hk hn => (hg.block k (Array.getElem?_eq_some_iff.1 hk).1 (fun e => by
    obtain ⟨cs, t, sp, hc⟩ := hr k e.symm
    rw [hc] at hk
    injection hk with hk
    subst hk
    cases hn)).trans hk⟩
theorem keeps_below {B : Nat} {W W' : World} (h : Below W.heap.size W W') : KeepsFrom B W W' := ⟨h.size, fun k _ _ hk _ => (h.block k (Array.getElem?_eq_some_iff.1 hk).1).trans hk⟩
theorem Bx.rowCells {w : World} {base b : Nat} {t : TypeId} {rest : List Value} {V : SV} {s : State} (h : Bx w base b t rest V s) {r : Nat} (hr : some r = V.moves.ownBlock) : ∃ cs t sp, w.heap[r]? = some (.cells cs t sp) := by
  obtain ⟨cur, hc⟩ := h.own.moves.block hr.symm
  exact ⟨_, _, _, hc⟩

theorem rangeBox (p : Plan) (f : Bool) (n : Nat) (h2 : 2 ≤ n) {g : Operand} {q sb : Nat} {assign body : Code} {Q : Exit → Act → World → Prop} {a : Act} {w : World} (Bp Bf n₀ : Nat) (Ab As : Option Addr) (cb cs : Nat) (hlb : p.bins.length ≤ 6) (hn0 : n₀ ≤ w.heap.size) (hBp : Bp < w.heap.size) (hBf : Bf < w.heap.size)
    (hg : a.eval g = .func (.func 156) #[] #[.pointer (some ⟨Bp, 0, none⟩), .pointer (some ⟨Bf, 0, none⟩)])
    (hp0 : w.cell? ⟨Bp, 0, none⟩ = some (.slice Ab p.bins.length cb)) (hp1 : w.cell? ⟨Bp, 1, none⟩ = some (.slice As p.sizes.length cs)) (hf : w.cell? ⟨Bf, 0, none⟩ = some (.bool f)) (hA : At w n₀ Ab (p.bins.flatMap cBin))
    (I : List (BinK p f) → World → Prop) (Ix : Code → List (BinK p f) → World → Prop) (hI : OwnFrom w.heap.size I) (hIx : ∀ c, OwnFrom w.heap.size (Ix c)) (h0 : I [] w) (hsz : ∀ pre W, I pre W → w.heap.size ≤ W.heap.size)
    (hassign : ∀ (l : Nat) (x : BinK p f) (W : World) (K : Act → World → Prop), K { tmps := (a.tmps.setIfInBounds q (.int .i64 ((x.1 : Nat) : Int))).setIfInBounds sb (.pointer (some ⟨W.heap.size, 0, none⟩)), defers := [] } (W.alloc (.cells #[.int .i64 ((x.1 : Nat) : Int)] 3)) →
      assign.wpIn (Fence.wide.inRound l) (n - 1 - 1) Tryz.prog (Exit.then K (fun _ _ _ => False)) { tmps := a.tmps.setIfInBounds q (.int .i64 ((x.1 : Nat) : Int)), defers := [] } W)
    (hbody : ∀ (l : Nat) (pre : List (BinK p f)) (x : BinK p f) (B : Nat) (W : World), w.heap.size ≤ l → (∃ r, W.heap[l]? = some (.loop r)) → I pre W → Boxed W B 3 (.int .i64 ((x.1 : Nat) : Int)) → w.heap.size ≤ B →
      body.wpIn (Fence.wide.inRound l) (n - 1 - 1) Tryz.prog (ownPostG w.heap.size (KpB n₀ Bf) I Ix (pre ++ [x]) W) { tmps := (a.tmps.setIfInBounds q (.int .i64 ((x.1 : Nat) : Int))).setIfInBounds sb (.pointer (some ⟨B, 0, none⟩)), defers := [] } W)
    (hdone : ∀ (D : Nat) (W : World), w.heap.size ≤ D → I (kindsX p f p.bins.length) W → W.heap[D]? = some (.deferred (some [])) → Q .normal { a with defers := { target := .collected D, args := #[] } :: a.defers } W)
    (hstop : ∀ (D : Nat) (c : Code) (k : Nat) (W : World), w.heap.size ≤ D → k ≤ p.bins.length → Ix c (kindsX p f k) W → W.heap[D]? = some (.deferred (some [])) → c.wpIn Fence.wide n Tryz.prog Q { a with defers := { target := .collected D, args := #[] } :: a.defers } W) :
    (Code.rangeFunc g #[q] assign body).wpIn Fence.wide n Tryz.prog Q a w := by
  refine wpIn_rangeFunc_ownH rfl (by omega) (gf := 156) (lb := #[.pointer (some ⟨Bp, 0, none⟩), .pointer (some ⟨Bf, 0, none⟩)]) hg trivial (enters_of Tryz.func156 (by kernel_rfl) rfl)
    (bins_stopsX Fence.wide (n - 1) trivial rfl (by omega) Bp Bf n₀ p f Ab As cb cs hlb w hn0 hBp hBf hp0 hp1 hf hA)
    (fun h k => ⟨h.1.trans k.1, k.2.trans h.2⟩)
    (fun W l o o' hl ho hc hw => ⟨belowK_b hn0 W l o o' hl ho hc hw, ((Below.refl w.heap.size W).grown (grownBy_putObj' W l o') (by have := (Array.getElem?_eq_some_iff.1 ho).1; omega) (fun k e => by cases e; exact hl)).cell (p := ⟨Bf, 0, none⟩) hBf⟩)
    (Below.refl _ _) (fun _ => rfl) I Ix hI hIx h0
    (fun x a' W => ∃ B, w.heap.size ≤ B ∧ a' = { tmps := (a.tmps.setIfInBounds q (.int .i64 ((x.1 : Nat) : Int))).setIfInBounds sb (.pointer (some ⟨B, 0, none⟩)), defers := [] } ∧ Boxed W B 3 (.int .i64 ((x.1 : Nat) : Int)))
    (fun x a' _ X Y row hs hg' hr => by
      obtain ⟨B, h1, h3, h4⟩ := hs
      exact ⟨B, h1, h3, (boxed_own B 3 (fun _ : Unit => Value.int .i64 ((x.1 : Nat) : Int))) () X Y row h4 hg' (fun r e => (hr r e).2)⟩)
    (fun l pre x W K hIp hK => ?_) (fun l pre x a' W hl hr hIp hAx hlt => ?_) (fun D xs W hD hS hIp hW => ?_) (fun D c pre W hD hS hIp hW => ?_)
  · have hz : Array.foldl (fun t (x : Nat × Value) => match x with | (p, v) => t.setIfInBounds p v) a.tmps (#[q].zip #[Value.int .i64 ((x.1 : Nat) : Int)]) = a.tmps.setIfInBounds q (.int .i64 ((x.1 : Nat) : Int)) := by simp
    rw [hz]
    refine hassign l x W K (hK _ _ (keeps_cells (World.grownBy_alloc W _ none) (fun r e => by cases e)) ⟨(Below.refl _ _).alloc (Nat.le_trans hn0 (hsz _ _ hIp)) _, ((Below.refl W.heap.size W).alloc (Nat.le_refl _) _).cell (p := ⟨Bf, 0, none⟩) (Nat.lt_of_lt_of_le hBf (hsz _ _ hIp))⟩ (hI.alloc _ hIp) ⟨W.heap.size, hsz _ _ hIp, rfl, Boxed.new W _ _⟩)
  · obtain ⟨B, h1, rfl, h4⟩ := hAx
    exact hbody l pre x B W hl hr hIp h4 h1
  · subst hS
    exact hdone D W hD hIp hW
  · obtain ⟨k, hk, rfl⟩ := hS
    exact hstop D c k W hD hk hIp hW

theorem rangeRound (p : Plan) (f : Bool) (n l₀ : Nat) (h2 : 2 ≤ n) {g : Operand} {q sb : Nat} {assign body : Code} {Q : Exit → Act → World → Prop} {a : Act} {w : World} {r₀ : Loop} (hl₀ : w.heap[l₀]? = some (.loop r₀)) (Bp Bf n₀ : Nat) (Ab As : Option Addr) (cb cs : Nat) (hlb : p.bins.length ≤ 6) (hn0 : n₀ ≤ w.heap.size) (hBp : Bp < w.heap.size) (hBf : Bf < w.heap.size)
    (hg : a.eval g = .func (.func 156) #[] #[.pointer (some ⟨Bp, 0, none⟩), .pointer (some ⟨Bf, 0, none⟩)])
    (hp0 : w.cell? ⟨Bp, 0, none⟩ = some (.slice Ab p.bins.length cb)) (hp1 : w.cell? ⟨Bp, 1, none⟩ = some (.slice As p.sizes.length cs)) (hf : w.cell? ⟨Bf, 0, none⟩ = some (.bool f)) (hA : At w n₀ Ab (p.bins.flatMap cBin))
    (I : List (BinK p f) → World → Prop) (Ix : Code → List (BinK p f) → World → Prop) (hI : OwnFrom w.heap.size I) (hIx : ∀ c, OwnFrom w.heap.size (Ix c)) (h0 : I [] w)
    (hassign : ∀ (l : Nat) (x : BinK p f) (W : World) (K : Act → World → Prop), K { tmps := (a.tmps.setIfInBounds q (.int .i64 ((x.1 : Nat) : Int))).setIfInBounds sb (.int .i64 ((x.1 : Nat) : Int)), defers := [] } W →
      assign.wpIn (Fence.wide.inRound l) (n - 1 - 1) Tryz.prog (Exit.then K (fun _ _ _ => False)) { tmps := a.tmps.setIfInBounds q (.int .i64 ((x.1 : Nat) : Int)), defers := [] } W)
    (hbody : ∀ (l : Nat) (pre : List (BinK p f)) (x : BinK p f) (W : World), I pre W →
      body.wpIn (Fence.wide.inRound l) (n - 1 - 1) Tryz.prog (ownPostG w.heap.size (KpB n₀ Bf) I Ix (pre ++ [x]) W) { tmps := (a.tmps.setIfInBounds q (.int .i64 ((x.1 : Nat) : Int))).setIfInBounds sb (.int .i64 ((x.1 : Nat) : Int)), defers := [] } W)
    (hdone : ∀ (W : World), I (kindsX p f p.bins.length) W → Q .normal a W)
    (hstop : ∀ (c : Code) (k : Nat) (W : World), k ≤ p.bins.length → Ix c (kindsX p f k) W → c.wpIn (Fence.wide.inRound l₀) n Tryz.prog Q a W) :
    (Code.rangeFunc g #[q] assign body).wpIn (Fence.wide.inRound l₀) n Tryz.prog Q a w := by
  refine wpIn_rangeFunc_ownN (F := Fence.wide.inRound l₀) (l₀ := l₀) rfl hl₀ (by omega) (gf := 156) (lb := #[.pointer (some ⟨Bp, 0, none⟩), .pointer (some ⟨Bf, 0, none⟩)]) hg trivial (enters_of Tryz.func156 (by kernel_rfl) rfl)
    (SeqStopsK.inRound l₀ (bins_stopsX Fence.wide (n - 1) trivial rfl (by omega) Bp Bf n₀ p f Ab As cb cs hlb w hn0 hBp hBf hp0 hp1 hf hA))
    (fun h k => ⟨h.1.trans k.1, k.2.trans h.2⟩)
    (fun W l o o' hl ho hc hw => ⟨belowK_b hn0 W l o o' hl ho hc hw, ((Below.refl w.heap.size W).grown (grownBy_putObj' W l o') (by have := (Array.getElem?_eq_some_iff.1 ho).1; omega) (fun k e => by cases e; exact hl)).cell (p := ⟨Bf, 0, none⟩) hBf⟩)
    (Below.refl _ _) (fun _ => rfl) I Ix hI hIx h0
    (fun x a' _ => a' = { tmps := (a.tmps.setIfInBounds q (.int .i64 ((x.1 : Nat) : Int))).setIfInBounds sb (.int .i64 ((x.1 : Nat) : Int)), defers := [] })
    (fun x a' _ X Y row hs hg' hr => hs)
    (fun l pre x W K hIp hK => ?_) (fun l pre x a' W hl hr hIp hAx hlt => ?_) (fun xs W hS hIp => ?_) (fun c pre W hS hIp => ?_)
  · have hz : Array.foldl (fun t (x : Nat × Value) => match x with | (p, v) => t.setIfInBounds p v) a.tmps (#[q].zip #[Value.int .i64 ((x.1 : Nat) : Int)]) = a.tmps.setIfInBounds q (.int .i64 ((x.1 : Nat) : Int)) := by simp
    rw [hz]
    exact hassign l x W K (hK _ _ (KeepsFrom.refl _ _) ⟨Below.refl _ _, rfl⟩ hIp rfl)
  · subst hAx
    exact hbody l pre x W hIp
  · subst hS
    exact hdone W hIp
  · obtain ⟨k, hk, rfl⟩ := hS
    exact hstop c k W hk hIp
end Wh
namespace Wh
open Go Go.RowKit Go.Shelf Go.Proofs
attribute [local go_sem] run_indexAt_letter

set_option maxHeartbeats 4000000 in
theorem flLacks (w : World) (v vs : Value) (p : Plan) (s : State) (b g : Nat) (hp : PlanV w w.heap.size v p) (hv : StateV w w.heap.size vs s) (hs : Sane p s) (hb : b < p.bins.length) (hg : g < p.sizes.length) :
    Calls Tryz.prog 104 #[v, vs, .int .i64 b, .int .i64 g] w fun e w' => e = .returned (.tuple #[.int .i64 ((p.bin b).high - (cell s.on b g + coming s b g)), .bool (decide (cell s.on b g + coming s b g < (p.bin b).low))]) ∧ Below w.heap.size w w' := by
  have hsn := Lib.hid hs
  have hbo : b < s.on.length := by rw [hs.onLen]; exact hb
  have hgl : g < (rowAt s.on b).length := by rw [hs.rowLen hb]; exact hg
  have hbi : (b : Int) < (s.on.length : Int) := by omega
  have hbp : (b : Int) < (p.bins.length : Int) := by omega
  have hgi : (g : Int) < ((rowAt s.on b).length : Int) := by omega
  have t1 := hs.cell hb hg
  have t2 := coming_range hs b g
  have t3 : 0 ≤ (p.bin b).high ∧ (p.bin b).high ≤ 200 := (right_bin hs.plan hb).2.2
  have hw1 : IntKind.i64.wrap (cell s.on b g + coming s b g) = cell s.on b g + coming s b g := IntWalk.i64_in _ (by omega)
  have hw2 : IntKind.i64.wrap ((p.bin b).high - (cell s.on b g + coming s b g)) = (p.bin b).high - (cell s.on b g + coming s b g) := IntWalk.i64_in _ (by omega)
  clear hs
  obtain ⟨Ab, cb, As, cs, rfl, hP', hBn, hSz, hlb, hls⟩ := openPl hp
  obtain ⟨A0, c0, A1, c1, A2, c2, A3, c3, A4, c4, A5, c5, A6, c6, rfl, hV, hN, hO, hH, hM, hI, hU, hX, hl0, hl1, hl2, hl3, hl4, hl5, hl6⟩ := openOne hv
  go_enter Tryz.func104, Tryz.ntmps104
  go_wp2_with fail
  obtain ⟨W0, hW0, hb0, hsz0, hsz1, hsE, hK⟩ := boxesTwo w p s Ab cb As cs A0 c0 A1 c1 A2 c2 A3 c3 A4 c4 A5 c5 A6 c6
  rw [hW0]
  clear hW0
  obtain ⟨⟨y0, y1⟩, x0, x1, x2, x3, x4, x5, x6, hbz0, hbz1⟩ := hK.out W0 (Below.refl W0.heap.size W0)
  obtain ⟨Ar, cr, or0, lr0, rr0, hrow⟩ := (hN.out W0 hb0).row hbo
  obtain ⟨or1, lr1, rr1⟩ := hrow.at_.int hgl
  change W0.cell? _ = some (.int .i64 (cell s.on b g)) at rr1
  have q1 := fun o d os => cells_wld (w := W0) (b := w.heap.size + 1) hbz0 o d os
  have q2 := fun o d os => cells_wld (w := W0) (b := ablk A0) lr0 o d os
  have q3 := fun o d os => cells_wld (w := W0) (b := ablk Ar) lr1 o d os
  have hV2 := Lib.hid (fun d os => hV.out _ (hb0.trans ((below_wld W0 d os).mono hb0.size)))
  go_wp2_with fail
  refine wp_region_wld (by kernel_rfl) (by kernel_rfl) ?_
  repeat (go_big_quiet_step ((go_at_call 94; refine calls_wld (sComing _ _ p s b g (hV2.out _ _) hsn.out))))
  refine wpQuiet_nil ?_
  intro W1 hw'
  have hb1 := below_of_cls hw'
  clear hw'
  clear q1 q2 q3 hV2 or0 lr0 rr0 hrow or1 lr1 rr1
  clear y0 y1 x0 x1 x2 x3 x4 x5 x6 hbz0 hbz1
  have hB1 := hb0.trans (hb1.mono hb0.size)
  obtain ⟨⟨y0, y1⟩, x0, x1, x2, x3, x4, x5, x6, hbz0, hbz1⟩ := hK.out W1 (hb1)
  obtain ⟨ob, lb, e0, e1, e2, e3⟩ := (hBn.out W1 hB1).at_.bin hb
  change W1.cell? _ = some (.int .i64 (p.bin b).low) at e2
  change W1.cell? _ = some (.int .i64 (p.bin b).high) at e3
  clear e0 e1
  go_wp2_with fail
  go_quiet (fail)
  have hBd := below_drewN hB1 nq
  go_wp2_with fail
  exact bodyPost_ret (v := .tuple #[.int .i64 ((p.bin b).high - (cell s.on b g + coming s b g)), .bool (decide (cell s.on b g + coming s b g < (p.bin b).low))]) (by simp [results, Tryz.results104, go_sem]) rfl ⟨rfl, hBd⟩
end Wh
namespace Wh
open Go Go.RowKit Go.Shelf Go.Proofs
attribute [local go_sem] run_indexAt_letter evL_tmp evL_const evL_func

theorem Filled.on {p : Plan} {s t : State} (h : Filled p s t) : t.on = s.on := by rw [h.rest]

theorem tdiv_abs {x z N : Int} (h : -N ≤ x ∧ x ≤ N) : -N ≤ x.tdiv z ∧ x.tdiv z ≤ N := by
  have h1 : (x.tdiv z).natAbs ≤ x.natAbs := by rw [Int.natAbs_tdiv]; exact Nat.div_le_self _ _
  omega
theorem fill_wrap {p : Plan} {t : State} {b g : Nat} (hs : Sane p t) (hb : b < p.bins.length) : wrap64 ((free p t b).tdiv (intAt p.sizes g)) = (free p t b).tdiv (intAt p.sizes g) := by
  have h1 := freeTo_range hs (b := b) ⟨by omega, by omega⟩ (Nat.le_refl p.sizes.length)
  rw [freeTo_all] at h1
  have h2 := tdiv_abs (x := free p t b) (z := intAt p.sizes g) (N := 60000) (by omega)
  exact IntWalk.wrap64_in _ (by omega)
theorem fillN_if (p : Plan) (t : State) (b g f : Nat) : (if (free p t b).tdiv (intAt p.sizes g) < if avail t f g < (p.bin b).high - cell t.on b g - coming t b g then avail t f g else (p.bin b).high - cell t.on b g - coming t b g then (free p t b).tdiv (intAt p.sizes g)
    else if avail t f g < (p.bin b).high - cell t.on b g - coming t b g then avail t f g else (p.bin b).high - cell t.on b g - coming t b g) = fillN p t b g f := by
  unfold fillN
  generalize (free p t b).tdiv (intAt p.sizes g) = x
  generalize avail t f g = y
  generalize (p.bin b).high - cell t.on b g - coming t b g = z
  rw [Int.min_def, Int.min_def]
  split <;> split <;> split <;> (try split) <;> omega

end Wh
namespace Wh
open Go Go.RowKit Go.Shelf Go.Proofs
attribute [local go_sem] run_indexAt_letter evL_tmp evL_const evL_func
attribute [local go_sem] Oper.semAt_some

section
variable {p : Plan} {s : State}
/-- Filled for the bins of a list. -/
def stX (p : Plan) (s : State) (pre : List (BinK p true)) : State := (pre.map Subtype.val).foldl (fun t b => (List.range p.sizes.length).foldl (fillGood p b) t) s
theorem stX_snoc (pre : List (BinK p true)) (x : BinK p true) : stX p s (pre ++ [x]) = (List.range p.sizes.length).foldl (fillGood p x.1) (stX p s pre) := by
  unfold stX
  rw [List.map_append, List.foldl_append]
  rfl
theorem stX_all : stX p s (kindsX p true p.bins.length) = fillS p s := by
  unfold stX
  rw [kindsX_val p true _ (Nat.le_refl _)]
  rfl
theorem stX_full {k : Nat} (hk : k ≤ p.bins.length) (h : 8 ≤ (stX p s (kindsX p true k)).moves.length) : fillS p s = stX p s (kindsX p true k) := by
  obtain ⟨r, hr⟩ := kindsX_pre p true p.bins.length k hk
  rw [← stX_all, hr]
  unfold stX at h ⊢
  rw [List.map_append, List.foldl_append]
  exact fillBins_full h p _
theorem stX_filled (h : checkState p s = 0) (pre : List (BinK p true)) : Filled p s (stX p s pre) :=
  foldl_inv (P := Filled p s) (fun t b hb ht => by
    obtain ⟨x, _, rfl⟩ := List.mem_map.1 hb
    exact filled_bin ht x.2.1 x.2.2) (filled_self h)
/-- .. and the goods ahead of g. -/
def gdX (p : Plan) (b : Nat) (t : State) (g : Nat) : State := (List.range g).foldl (fillGood p b) t
theorem gdX_succ (b : Nat) (t : State) (g : Nat) : gdX p b t (g + 1) = fillGood p b (gdX p b t g) g := by
  unfold gdX
  rw [List.range_succ, List.foldl_append]
  rfl
theorem gdX_full {b : Nat} {t : State} {g : Nat} (h : 8 ≤ (gdX p b t g).moves.length) : ∀ n, g ≤ n → gdX p b t n = gdX p b t g
  | 0, hn => by
    obtain rfl : g = 0 := by omega
    rfl
  | n + 1, hn => by
    by_cases he : g = n + 1
    · rw [he]
    · rw [gdX_succ, gdX_full h n (by omega), fillGood_full h]
theorem gdX_filled {t : State} {b : Nat} (h : Filled p s t) (hb : b < p.bins.length) (hf : (p.bin b).front = true) : ∀ g, g ≤ p.sizes.length → Filled p s (gdX p b t g)
  | 0, _ => h
  | g + 1, hg => by
    rw [gdX_succ]
    exact filled_good (gdX_filled h hb hf g (by omega)) hb (by omega) hf
/-- .. and out of the bins of a list. -/
def siX (p : Plan) (b g : Nat) (t : State) (pre : List (BinK p false)) : State := (pre.map Subtype.val).foldl (fun t f => fill1 p t b g f) t
theorem siX_snoc (b g : Nat) (t : State) (pre : List (BinK p false)) (x : BinK p false) : siX p b g t (pre ++ [x]) = fill1 p (siX p b g t pre) b g x.1 := by
  unfold siX
  rw [List.map_append, List.foldl_append]
  rfl
theorem siX_all {b g : Nat} {t : State} (h : cell t.on b g + coming t b g < (p.bin b).low) : fillGood p b t g = siX p b g t (kindsX p false p.bins.length) := by
  unfold siX fillGood
  rw [kindsX_val p false _ (Nat.le_refl _), if_pos h]
  rfl
theorem siX_full {b g k : Nat} {t : State} (hk : k ≤ p.bins.length) (h : 8 ≤ (siX p b g t (kindsX p false k)).moves.length) : siX p b g t (kindsX p false p.bins.length) = siX p b g t (kindsX p false k) := by
  obtain ⟨r, hr⟩ := kindsX_pre p false p.bins.length k hk
  rw [hr]
  unfold siX at h ⊢
  rw [List.map_append, List.foldl_append]
  generalize (kindsX p false k).map Subtype.val = l at h ⊢
  generalize l.foldl (fun t f => fill1 p t b g f) t = u at h ⊢
  clear hr
  induction r with
  | nil => rfl
  | cons x r ih =>
    rw [List.map_cons, List.foldl_cons, fill1_full h]
    exact ih
theorem siX_filled {t : State} {b g : Nat} (h : Filled p s t) (hb : b < p.bins.length) (hf : (p.bin b).front = true) (hg : g < p.sizes.length) (pre : List (BinK p false)) : Filled p s (siX p b g t pre) :=
  foldl_inv (P := Filled p s) (fun t f hm ht => by
    obtain ⟨x, _, rfl⟩ := List.mem_map.1 hm
    exact filled_one ht hb hg x.2.1 hf x.2.2) h
end

/-- What a loop over bins keeps: the state in its box, blocks that lie as they lay, all that is old. -/
def keepI (base bx : Nat) (V : Value → SV) (L : List (Nat × Obj)) (W0 : World) (T : State) (W : World) : Prop :=
  (∃ u, Bx W base bx 31 [] (V u) T) ∧ HeldDs L W ∧ Below W0.heap.size W0 W
theorem keepI_own {β : Type} {base bx : Nat} {V : Value → SV} {L : List (Nat × Obj)} {W0 : World} (T : β → State) {B : Nat} (hL : ∀ x ∈ L, x.1 < B) (hB : W0.heap.size ≤ B) : OwnFrom B (fun s W => keepI base bx V L W0 (T s) W) :=
  fun s X Y row hs hg hr => by
    obtain ⟨⟨u, h1⟩, h2, h3⟩ := hs
    exact ⟨⟨u, h1.noncell hg fun r e => (hr r e).2⟩, HeldDs.from_ hL s X Y row h2 hg hr, h3.grown hg h3.size (fun k hk => by have := (hr k hk).1; omega)⟩



theorem HeldDs.below {L : List (Nat × Obj)} {W W' : World} (h : HeldDs L W) (hb : Below W.heap.size W W') : HeldDs L W' := fun x hx => (hb.block x.1 (h.lt x hx)).trans (h x hx)
theorem KeepsFrom.weak {B B' : Nat} {W W' : World} (h : KeepsFrom B W W') (hB : B ≤ B') : KeepsFrom B' W W' := ⟨h.size, fun k o hk ho hc => h.same k o (Nat.le_trans hB hk) ho hc⟩
/-- What a round leaves: boxes, all below 'base', all that is no cells from B7 on. -/
structure Sides (L : List (Nat × Obj)) (base B7 : Nat) (Wo W : World) : Prop where
  held : HeldDs L W
  b : Below base Wo W
  k : KeepsFrom B7 Wo W
namespace Sides
variable {L : List (Nat × Obj)} {base B7 : Nat} {Wo W W' : World}
theorem refl (h : HeldDs L W) : Sides L base B7 W W := ⟨h, Below.refl _ _, KeepsFrom.refl _ _⟩
theorem trans {L' : List (Nat × Obj)} (h : Sides L base B7 Wo W) (h' : Sides L' base B7 W W') : Sides L' base B7 Wo W' := ⟨h'.held, h.b.trans h'.b, h.k.trans h'.k⟩
theorem below (h : Sides L base B7 Wo W) (hn : base ≤ Wo.heap.size) (hb : Below W.heap.size W W') : Sides L base B7 Wo W' := ⟨h.held.below hb, h.b.trans (hb.mono (Nat.le_trans hn h.k.size)), h.k.trans (keeps_below hb)⟩
theorem grown (h : Sides L base B7 Wo W) (hn : base ≤ Wo.heap.size) {row : Option Nat} (hg : W.grownBy W' row) (hr : ∀ r, row = some r → base ≤ r ∧ (∃ cs t sp, W.heap[r]? = some (.cells cs t sp)) ∧ ∀ x ∈ L, x.1 ≠ r) : Sides L base B7 Wo W' :=
  ⟨h.held.grown hg fun x hx he => (hr _ he.symm).2.2 x hx rfl, h.b.trans ((Below.refl _ _).grown hg (Nat.le_trans hn h.k.size) fun r e => (hr r e).1), h.k.trans (keeps_cells hg fun r e => (hr r e).2.1)⟩
theorem step (h : Sides L base B7 Wo W) (hn : base ≤ Wo.heap.size) {b : Nat} (hs : Step (· = b) W W') (hb : base ≤ b) (hc : ∃ cs t sp, W.heap[b]? = some (.cells cs t sp)) (hL : ∀ x ∈ L, x.1 ≠ b) : Sides L base B7 Wo W' := by
  refine ⟨fun x hx => hs.heap (h.held x hx) (hL x hx), h.b.trans (hs.below (fun q hq => by omega) (Nat.le_trans hn h.k.size)), h.k.trans ⟨hs.size, fun k o _ hk ho => hs.heap hk fun he => ?_⟩⟩
  subst he
  obtain ⟨cs, t, sp, hc⟩ := hc
  rw [hc] at hk
  injection hk with hk
  subst hk
  cases ho
theorem own {β : Type} {B : Nat} (hL : ∀ x ∈ L, x.1 < B) (hn : base ≤ Wo.heap.size) (hB : Wo.heap.size ≤ B) : OwnFrom B (fun (_ : β) W => Sides L base B7 Wo W) := fun s X Y row hs hg hr =>
  ⟨HeldDs.from_ hL s X Y row hs.held hg hr, ownFrom_below hn (Nat.le_trans hn hB) s X Y row hs.b hg hr, ownFrom_keepsFrom hB s X Y row hs.k hg hr⟩
end Sides
/-- .. with the state in its box. -/
def keepJ (base bx : Nat) (V : Value → SV) (L : List (Nat × Obj)) (B7 : Nat) (Wo : World) (T : State) (W : World) : Prop :=
  (∃ u, Bx W base bx 31 [] (V u) T) ∧ Sides L base B7 Wo W
theorem keepJ_own {β : Type} {base bx B7 : Nat} {V : Value → SV} {L : List (Nat × Obj)} {Wo : World} (T : β → State) {B : Nat} (hL : ∀ x ∈ L, x.1 < B) (hn : base ≤ Wo.heap.size) (hB : Wo.heap.size ≤ B) : OwnFrom B (fun s W => keepJ base bx V L B7 Wo (T s) W) :=
  fun s X Y row hs hg hr => by
    obtain ⟨⟨u, h1⟩, h2⟩ := hs
    exact ⟨⟨u, h1.noncell hg fun r e => (hr r e).2⟩, Sides.own hL hn hB s X Y row h2 hg hr⟩
/-- One element more, in a round. -/
theorem wpListIn_push {P : Program} (w : World) {F : Fence} {n : Nat} {α : Type} {enc : α → List Value} {ops : Array Oper} {rest : List Oper} {o : Oper} {a : Act} {Q : Exit → Act → World → Prop} (hgd : o.guard = none) (s x : Operand) (t e : TypeId)
    (ho : o.op = .call { callee := .builtin .append, args := #[s, x], argTypes := #[t, t] }) (base : Nat) (z : Value) (size bytes : Nat) (ht : P.underlying t = some (.slice e)) (hi : Elem P e z size bytes)
    (hzs : z.cells.size = size) (hsz : 0 < size) (hby : bytes ≤ 64) (v : Value) (l : List α) (y : α) (hs : a.eval s = v) (hown : Own enc size e w base v l)
    (ad : Addr) (c : Nat) (hx : a.eval x = .slice (some ad) 1 c) (hl : (enc y).length = size) (hnews : ∀ j u, (enc y)[j]? = some u → w.cell? (ad.add j) = some u) (h1 : ∀ u ∈ enc y, u.oneCell' = true)
    (hn : l.length ≤ 1000000) (hbase : base ≤ w.heap.size)
    (h : ∀ v' w', Own enc size e w' base v' (l ++ [y]) → w.grownBy w' v.ownBlock → Below base w w' → wpListIn F n P ops Q rest (a.put o.dst v') w') :
    wpListIn F n P ops Q (o :: rest) a w := by
  obtain ⟨i, hi, hz, hsize, hbytes⟩ := hi
  have hb : (l.length + 1) * bytes ≤ 140737488355328 := Nat.le_trans (Nat.mul_le_mul (show l.length + 1 ≤ 1000001 by omega) hby) (by decide)
  refine wpListIn_append_own w hgd s x t ho base e i z size bytes ht hi hz hsize hbytes hzs hsz v l.length _ hs hown ad 1 c (enc y) hx (by rw [hl, Nat.one_mul]) hnews h1 (by unfold maxLen; omega) hb hbase ?_
  intro v' w' h2 h3 _
  refine h v' w' ?_ h3 ((Below.refl _ _).grown h3 hbase fun k hk => (World.ownsRow.lt hown k hk).1)
  unfold Own
  rw [List.length_append, List.flatMap_append]
  simpa using h2
end Wh
