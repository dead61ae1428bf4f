/- Texts of the claim, joined: FillQ, FillR, FillC, PlainK, RelB. -/
import Derived.BigQuiet
import Derived.Test.YtbmklcloknpniaaQ03
import Derived.Test.YtbmklcloknpniaaQ12
import Derived.Test.YtbmklcloknpniaaQ11
import Derived.Test.YtbmklcloknpniaaQ08
import Derived.Test.YtbmklcloknpniaaQ05
namespace Wh
open Go Go.RowKit Go.Shelf Go.Proofs
attribute [local go_sem] run_indexAt_letter
attribute [local go_sem] Oper.semAt_some

/-- A bin of one kind. -/
abbrev BinK (p : Plan) (f : Bool) : Type := { x : Nat // x < p.bins.length ∧ (binAt p.bins x).front = f }
def kindsX (p : Plan) (f : Bool) : Nat → List (BinK p f)
  | 0 => []
  | k + 1 => if h : k < p.bins.length ∧ (binAt p.bins k).front = f then kindsX p f k ++ [(⟨k, h⟩ : BinK p f)] else kindsX p f k
theorem kindsX_yes {p : Plan} {f : Bool} {k : Nat} (h1 : k < p.bins.length) (h2 : (binAt p.bins k).front = f) : kindsX p f (k + 1) = kindsX p f k ++ [⟨k, h1, h2⟩] := by
  show (if h : k < p.bins.length ∧ (binAt p.bins k).front = f then kindsX p f k ++ [(⟨k, h⟩ : BinK p f)] else kindsX p f k) = _
  rw [dif_pos ⟨h1, h2⟩]
theorem kindsX_no {p : Plan} {f : Bool} {k : Nat} (h : (binAt p.bins k).front ≠ f) : kindsX p f (k + 1) = kindsX p f k := by
  show (if h : k < p.bins.length ∧ (binAt p.bins k).front = f then kindsX p f k ++ [(⟨k, h⟩ : BinK p f)] else kindsX p f k) = _
  rw [dif_neg (fun hh => h hh.2)]
theorem kindsX_val (p : Plan) (f : Bool) : ∀ k, k ≤ p.bins.length → (kindsX p f k).map Subtype.val = kindsTo p f k
  | 0, _ => rfl
  | k + 1, hk => by
    have ih := kindsX_val p f k (by omega)
    by_cases hf : (binAt p.bins k).front = f
    · rw [kindsX_yes (by omega) hf, kindsTo_yes hf, List.map_append, ih]
      rfl
    · rw [kindsX_no hf, kindsTo_no hf, ih]
theorem kindsX_length (p : Plan) (f : Bool) : ∀ k, (kindsX p f k).length ≤ k
  | 0 => Nat.le_refl _
  | k + 1 => by
    have ih := kindsX_length p f k
    show (if h : k < p.bins.length ∧ (binAt p.bins k).front = f then kindsX p f k ++ [(⟨k, h⟩ : BinK p f)] else kindsX p f k).length ≤ k + 1
    split
    · rw [List.length_append, List.length_singleton]; omega
    · omega
theorem kindsX_pre (p : Plan) (f : Bool) : ∀ n k, k ≤ n → ∃ r, kindsX p f n = kindsX p f k ++ r
  | 0, k, h => by
    obtain rfl : k = 0 := by omega
    exact ⟨[], rfl⟩
  | n + 1, k, h => by
    by_cases he : k = n + 1
    · exact ⟨[], by rw [he, List.append_nil]⟩
    · obtain ⟨r, hr⟩ := kindsX_pre p f n k (by omega)
      by_cases hh : n < p.bins.length ∧ (binAt p.bins n).front = f
      · exact ⟨r ++ [⟨n, hh⟩], by rw [kindsX_yes hh.1 hh.2, hr, List.append_assoc]⟩
      · refine ⟨r, ?_⟩
        rw [← hr]
        show (if h : n < p.bins.length ∧ (binAt p.bins n).front = f then kindsX p f n ++ [(⟨n, h⟩ : BinK p f)] else kindsX p f n) = _
        rw [dif_neg hh]

set_option maxRecDepth 100000 in
set_option maxHeartbeats 2000000 in
theorem bins1_inX (F : Fence) (n : Nat) (h7 : F.fn 29) (hro : F.round = none) (hn : 1 ≤ n) (l Bp Bf n₀ : Nat) (p : Plan) (f : Bool) (Ab As : Option Addr) (cb cs : Nat) (hlb : p.bins.length ≤ 6) (J Jx : List (BinK p f) → World → Prop)
    (hY : ∀ (pre : List (BinK p f)) (x : BinK p f) W, J pre W → pre.length < p.bins.length → YieldAt F (n - 1) Try.prog l #[.int .i64 ((x.1 : Nat) : Int)] W fun e W' =>
      (e = .returned (.bool true) ∧ J (pre ++ [x]) W' ∧ KpB n₀ Bf W W') ∨ (e = .returned (.bool false) ∧ Jx (pre ++ [x]) W'))
    (W : World) (hn0 : n₀ ≤ W.heap.size) (hJ : AbidesFrom W.heap.size J) (hBf : Bf < W.heap.size) (hp0 : W.cell? ⟨Bp, 0, none⟩ = some (.slice Ab p.bins.length cb)) (_ : W.cell? ⟨Bp, 1, none⟩ = some (.slice As p.sizes.length cs))
    (hf : W.cell? ⟨Bf, 0, none⟩ = some (.bool f)) (hA : At W n₀ Ab (p.bins.flatMap cBin)) (h0 : J [] W) :
    CallsIn F n Try.prog 29 #[.func (.yield l) #[] #[], .pointer (some ⟨Bp, 0, none⟩), .pointer (some ⟨Bf, 0, none⟩)] W fun e W' => (∃ v, e = .returned v) ∧
      ((∃ ys, ys = kindsX p f p.bins.length ∧ J ys W') ∨ (∃ pre, (∃ k, k ≤ p.bins.length ∧ pre = kindsX p f k) ∧ Jx pre W')) := by
  refine callsIn_of_wp Try.func29 rfl h7 ?_ hro
  simp only [Try.ntmps29, List.size_toArray, List.length_cons, List.length_nil, Nat.reduceAdd, Nat.reduceSub, Array.replicate_succ, Array.replicate_zero, List.push_toArray, List.append_toArray, List.nil_append, List.cons_append]
  gi_wp2
  gi_loopw [9] (fun i wr => ∃ k : Nat, k ≤ p.bins.length ∧ i = .int .i64 k ∧ J (kindsX p f k) wr ∧ KpB n₀ Bf W wr)
    (fun i _ => p.bins.length - (intOf i).toNat)
  case atStart => exact ⟨0, Nat.zero_le _, rfl, h0, Below.refl _ _, rfl⟩
  case round =>
    obtain ⟨k, hk, rfl, hJs, hnx, hnf⟩ := hrel
    by_cases hlt : k < p.bins.length
    · obtain ⟨hok, hAb, b0, b1, b2, b3⟩ := (hA.up hnx (Nat.le_refl _)).bin hlt
      have g0 := hnf.trans hf
      have hBw : Bf < wr.heap.size := by have := hnx.size; omega
      have hJa := hJ _ _ _ none hJs (World.grownBy_alloc wr (.cells #[.bool (binAt p.bins k).front, .int .i64 (binAt p.bins k).room, .int .i64 (binAt p.bins k).low, .int .i64 (binAt p.bins k).high] 73) none) (fun r h => by cases h)
      have hBa : Below n₀ wr (wr.alloc (.cells #[.bool (binAt p.bins k).front, .int .i64 (binAt p.bins k).room, .int .i64 (binAt p.bins k).low, .int .i64 (binAt p.bins k).high] 73)) := (Below.refl _ _).alloc (by have := hnx.size; omega) _
      have hca : (wr.alloc (.cells #[.bool (binAt p.bins k).front, .int .i64 (binAt p.bins k).room, .int .i64 (binAt p.bins k).low, .int .i64 (binAt p.bins k).high] 73)).cell? ⟨Bf, 0, none⟩ = wr.cell? ⟨Bf, 0, none⟩ :=
        ((Below.refl wr.heap.size wr).alloc (Nat.le_refl _) _).cell (p := ⟨Bf, 0, none⟩) hBw
      cases hfr : ((binAt p.bins k).front == f)
      · have hno := kindsX_no (p := p) (f := f) (k := k) (by simpa using hfr)
        gi_wp2
        refine ⟨fun _ h => (by cases h), ?_⟩
        gi_wp2
        go_roundw
        case rel => exact ⟨k + 1, by omega, by simp, by rw [hno]; exact hJa, hnx.trans hBa, hca.trans hnf⟩
        case measure => simp [intOf]; omega
      · have hfk := Lib.hid (show (binAt p.bins k).front = f by simpa using hfr)
        have hyes := kindsX_yes hlt hfk.out
        obtain ⟨fn, tmps, assign, body, hy, hR⟩ : YieldAt F (n - 1) Try.prog l #[.int .i64 ((k : Nat) : Int)] _ _ := hY _ ⟨k, hlt, hfk.out⟩ _ hJa (by have := kindsX_length p f k; omega)
        gi_wp2
        refine hR.mono ?_
        rintro e W3 (⟨rfl, hJ3, hk3⟩ | ⟨rfl, hJx3⟩)
        · gi_wp2
          go_roundw
          case rel => exact ⟨k + 1, by omega, by simp, by rw [hyes]; exact hJ3, (hnx.trans hBa).trans hk3.1, (hk3.2.trans hca).trans hnf⟩
          case measure => simp [intOf]; omega
        · gi_wp2
          refine bodyPost_ret (results_none rfl _ _ _) rfl ?_
          exact ⟨⟨_, rfl⟩, .inr ⟨_, ⟨k + 1, by omega, hyes.symm⟩, hJx3⟩⟩
    · obtain rfl : k = p.bins.length := by omega
      gi_wp2
      go_end0
      exact ⟨⟨_, rfl⟩, .inl ⟨_, rfl, hJs⟩⟩

theorem bins_stopsX (F : Fence) (n : Nat) (h7 : F.fn 29) (hro : F.round = none) (hn : 1 ≤ n) (Bp Bf n₀ : Nat) (p : Plan) (f : Bool) (Ab As : Option Addr) (cb cs : Nat) (hlb : p.bins.length ≤ 6) (w : World) (hn0 : n₀ ≤ w.heap.size) (hBp : Bp < w.heap.size) (hBf : Bf < w.heap.size)
    (hp0 : w.cell? ⟨Bp, 0, none⟩ = some (.slice Ab p.bins.length cb)) (hp1 : w.cell? ⟨Bp, 1, none⟩ = some (.slice As p.sizes.length cs)) (hf : w.cell? ⟨Bf, 0, none⟩ = some (.bool f)) (hA : At w n₀ Ab (p.bins.flatMap cBin)) :
    SeqStopsK F n Try.prog 29 #[.pointer (some ⟨Bp, 0, none⟩), .pointer (some ⟨Bf, 0, none⟩)] (fun x : BinK p f => #[Value.int .i64 ((x.1 : Nat) : Int)]) (KpB n₀ Bf) (fun ys => ys = kindsX p f p.bins.length) (fun pre => ∃ k, k ≤ p.bins.length ∧ pre = kindsX p f k) p.bins.length w := fun l J Jx W hW hJ _ hY h0 =>
  bins1_inX F n h7 hro hn l Bp Bf n₀ p f Ab As cb cs hlb J Jx hY W (Nat.le_trans hn0 hW.size) hJ (Nat.lt_of_lt_of_le hBf hW.size) ((hW.cell (p := ⟨Bp, 0, none⟩) hBp).trans hp0) ((hW.cell (p := ⟨Bp, 1, none⟩) hBp).trans hp1)
    ((hW.cell (p := ⟨Bf, 0, none⟩) hBf).trans hf) (hA.up (hW.mono hn0) (Nat.le_refl _)) h0

section
variable {w w' : World} {base : Nat}
/-- Another thing than cells was written. -/
theorem Own.noncell {α : Type} {enc : α → List Value} {size : Nat} {e : TypeId} {v : Value} {l : List α} {row : Option Nat} (h : Own enc size e w base v l) (hg : w.grownBy w' row) (hr : ∀ r, row = some r → ∃ o : Obj, w.heap[r]? = some o ∧ o.isCells = false) : Own enc size e w' base v l := by
  refine h.kept hg ?_
  cases hv : v.ownBlock with
  | none => exact .inl rfl
  | some g =>
    refine .inr fun he => ?_
    obtain ⟨cur, hc⟩ := h.block hv
    obtain ⟨o, ho, hn⟩ := hr g he.symm
    rw [hc] at ho
    injection ho with ho
    subst ho
    cases hn
theorem OwnSt.noncell {V : SV} {s : State} {row : Option Nat} (h : OwnSt w base V s) (hg : w.grownBy w' row) (hr : ∀ r, row = some r → ∃ o : Obj, w.heap[r]? = some o ∧ o.isCells = false) : OwnSt w' base V s :=
  ⟨h.on.noncell hg hr, h.rlen, fun b hlt => (h.row b hlt).noncell hg hr, h.orders.noncell hg hr, h.llen, fun o ho => (h.line o ho).noncell hg hr, h.holds.noncell hg hr, h.moves.noncell hg hr, h.inn.noncell hg hr, h.out.noncell hg hr, h.fixed.noncell hg hr, h.apart, h.apartl⟩
theorem Bx.noncell {b : Nat} {t : TypeId} {rest : List Value} {V : SV} {s : State} {row : Option Nat} (h : Bx w base b t rest V s) (hg : w.grownBy w' row) (hr : ∀ r, row = some r → ∃ o : Obj, w.heap[r]? = some o ∧ o.isCells = false) : Bx w' base b t rest V s := by
  refine ⟨h.box.grown hg fun he => ?_, h.own.noncell hg hr, h.ty⟩
  obtain ⟨o, ho, hn⟩ := hr b he.symm
  have hb : w.heap[b]? = _ := h.box
  rw [hb] at ho
  injection ho with ho
  subst ho
  cases hn
end
end Wh
namespace Wh
open Go Go.RowKit Go.Shelf Go.Proofs

theorem keeps_cells {B : Nat} {W W' : World} {row : Option Nat} (hg : W.grownBy W' row) (hr : ∀ r, row = some r → ∃ cs t sp, W.heap[r]? = some (.cells cs t sp)) : KeepsFrom B W W' :=
  ⟨hg.size, fun k o _ hk hn => (hg.block k (Array.getElem?_eq_some_iff.1 hk).1 (fun e => by
    obtain ⟨cs, t, sp, hc⟩ := hr k e.symm
    rw [hc] at hk
    injection hk with hk
    subst hk
    cases hn)).trans hk⟩
theorem keeps_below {B : Nat} {W W' : World} (h : Below W.heap.size W W') : KeepsFrom B W W' := ⟨h.size, fun k _ _ hk _ => (h.block k (Array.getElem?_eq_some_iff.1 hk).1).trans hk⟩
theorem Bx.rowCells {w : World} {base b : Nat} {t : TypeId} {rest : List Value} {V : SV} {s : State} (h : Bx w base b t rest V s) {r : Nat} (hr : some r = V.moves.ownBlock) : ∃ cs t sp, w.heap[r]? = some (.cells cs t sp) := by
  obtain ⟨cur, hc⟩ := h.own.moves.block hr.symm
  exact ⟨_, _, _, hc⟩

theorem rangeBox (p : Plan) (f : Bool) (n : Nat) (h2 : 2 ≤ n) {g : Operand} {q sb : Nat} {assign body : Code} {Q : Exit → Act → World → Prop} {a : Act} {w : World} (Bp Bf n₀ : Nat) (Ab As : Option Addr) (cb cs : Nat) (hlb : p.bins.length ≤ 6) (hn0 : n₀ ≤ w.heap.size) (hBp : Bp < w.heap.size) (hBf : Bf < w.heap.size)
    (hg : a.eval g = .func (.func 29) #[] #[.pointer (some ⟨Bp, 0, none⟩), .pointer (some ⟨Bf, 0, none⟩)])
    (hp0 : w.cell? ⟨Bp, 0, none⟩ = some (.slice Ab p.bins.length cb)) (hp1 : w.cell? ⟨Bp, 1, none⟩ = some (.slice As p.sizes.length cs)) (hf : w.cell? ⟨Bf, 0, none⟩ = some (.bool f)) (hA : At w n₀ Ab (p.bins.flatMap cBin))
    (I : List (BinK p f) → World → Prop) (Ix : Code → List (BinK p f) → World → Prop) (hI : OwnFrom w.heap.size I) (hIx : ∀ c, OwnFrom w.heap.size (Ix c)) (h0 : I [] w) (hsz : ∀ pre W, I pre W → w.heap.size ≤ W.heap.size)
    (hassign : ∀ (l : Nat) (x : BinK p f) (W : World) (K : Act → World → Prop), K { tmps := (a.tmps.setIfInBounds q (.int .i64 ((x.1 : Nat) : Int))).setIfInBounds sb (.pointer (some ⟨W.heap.size, 0, none⟩)), defers := [] } (W.alloc (.cells #[.int .i64 ((x.1 : Nat) : Int)] 3)) →
      assign.wpIn (Fence.wide.inRound l) (n - 1 - 1) Try.prog (Exit.then K (fun _ _ _ => False)) { tmps := a.tmps.setIfInBounds q (.int .i64 ((x.1 : Nat) : Int)), defers := [] } W)
    (hbody : ∀ (l : Nat) (pre : List (BinK p f)) (x : BinK p f) (B : Nat) (W : World), w.heap.size ≤ l → (∃ r, W.heap[l]? = some (.loop r)) → I pre W → Boxed W B 3 (.int .i64 ((x.1 : Nat) : Int)) → w.heap.size ≤ B →
      body.wpIn (Fence.wide.inRound l) (n - 1 - 1) Try.prog (ownPostG w.heap.size (KpB n₀ Bf) I Ix (pre ++ [x]) W) { tmps := (a.tmps.setIfInBounds q (.int .i64 ((x.1 : Nat) : Int))).setIfInBounds sb (.pointer (some ⟨B, 0, none⟩)), defers := [] } W)
    (hdone : ∀ (D : Nat) (W : World), w.heap.size ≤ D → I (kindsX p f p.bins.length) W → W.heap[D]? = some (.deferred (some [])) → Q .normal { a with defers := { target := .collected D, args := #[] } :: a.defers } W)
    (hstop : ∀ (D : Nat) (c : Code) (k : Nat) (W : World), w.heap.size ≤ D → k ≤ p.bins.length → Ix c (kindsX p f k) W → W.heap[D]? = some (.deferred (some [])) → c.wpIn Fence.wide n Try.prog Q { a with defers := { target := .collected D, args := #[] } :: a.defers } W) :
    (Code.rangeFunc g #[q] assign body).wpIn Fence.wide n Try.prog Q a w := by
  refine wpIn_rangeFunc_ownH rfl (by omega) (gf := 29) (lb := #[.pointer (some ⟨Bp, 0, none⟩), .pointer (some ⟨Bf, 0, none⟩)]) hg trivial (enters_of Try.func29 (by kernel_rfl) rfl)
    (bins_stopsX Fence.wide (n - 1) trivial rfl (by omega) Bp Bf n₀ p f Ab As cb cs hlb w hn0 hBp hBf hp0 hp1 hf hA)
    (fun h k => ⟨h.1.trans k.1, k.2.trans h.2⟩)
    (fun W l o o' hl ho hc hw => ⟨belowK_b hn0 W l o o' hl ho hc hw, ((Below.refl w.heap.size W).grown (grownBy_putObj' W l o') (by have := (Array.getElem?_eq_some_iff.1 ho).1; omega) (fun k e => by cases e; exact hl)).cell (p := ⟨Bf, 0, none⟩) hBf⟩)
    (Below.refl _ _) (fun _ => rfl) I Ix hI hIx h0
    (fun x a' W => ∃ B, w.heap.size ≤ B ∧ a' = { tmps := (a.tmps.setIfInBounds q (.int .i64 ((x.1 : Nat) : Int))).setIfInBounds sb (.pointer (some ⟨B, 0, none⟩)), defers := [] } ∧ Boxed W B 3 (.int .i64 ((x.1 : Nat) : Int)))
    (fun x a' _ X Y row hs hg' hr => by
      obtain ⟨B, h1, h3, h4⟩ := hs
      exact ⟨B, h1, h3, (boxed_own B 3 (fun _ : Unit => Value.int .i64 ((x.1 : Nat) : Int))) () X Y row h4 hg' (fun r e => (hr r e).2)⟩)
    (fun l pre x W K hIp hK => ?_) (fun l pre x a' W hl hr hIp hAx hlt => ?_) (fun D xs W hD hS hIp hW => ?_) (fun D c pre W hD hS hIp hW => ?_)
  · have hz : Array.foldl (fun t (x : Nat × Value) => match x with | (p, v) => t.setIfInBounds p v) a.tmps (#[q].zip #[Value.int .i64 ((x.1 : Nat) : Int)]) = a.tmps.setIfInBounds q (.int .i64 ((x.1 : Nat) : Int)) := by simp
    rw [hz]
    refine hassign l x W K (hK _ _ (keeps_cells (World.grownBy_alloc W _ none) (fun r e => by cases e)) ⟨(Below.refl _ _).alloc (Nat.le_trans hn0 (hsz _ _ hIp)) _, ((Below.refl W.heap.size W).alloc (Nat.le_refl _) _).cell (p := ⟨Bf, 0, none⟩) (Nat.lt_of_lt_of_le hBf (hsz _ _ hIp))⟩ (hI.alloc _ hIp) ⟨W.heap.size, hsz _ _ hIp, rfl, Boxed.new W _ _⟩)
  · obtain ⟨B, h1, rfl, h4⟩ := hAx
    exact hbody l pre x B W hl hr hIp h4 h1
  · subst hS
    exact hdone D W hD hIp hW
  · obtain ⟨k, hk, rfl⟩ := hS
    exact hstop D c k W hD hk hIp hW

theorem rangeRound (p : Plan) (f : Bool) (n l₀ : Nat) (h2 : 2 ≤ n) {g : Operand} {q sb : Nat} {assign body : Code} {Q : Exit → Act → World → Prop} {a : Act} {w : World} {r₀ : Loop} (hl₀ : w.heap[l₀]? = some (.loop r₀)) (Bp Bf n₀ : Nat) (Ab As : Option Addr) (cb cs : Nat) (hlb : p.bins.length ≤ 6) (hn0 : n₀ ≤ w.heap.size) (hBp : Bp < w.heap.size) (hBf : Bf < w.heap.size)
    (hg : a.eval g = .func (.func 29) #[] #[.pointer (some ⟨Bp, 0, none⟩), .pointer (some ⟨Bf, 0, none⟩)])
    (hp0 : w.cell? ⟨Bp, 0, none⟩ = some (.slice Ab p.bins.length cb)) (hp1 : w.cell? ⟨Bp, 1, none⟩ = some (.slice As p.sizes.length cs)) (hf : w.cell? ⟨Bf, 0, none⟩ = some (.bool f)) (hA : At w n₀ Ab (p.bins.flatMap cBin))
    (I : List (BinK p f) → World → Prop) (Ix : Code → List (BinK p f) → World → Prop) (hI : OwnFrom w.heap.size I) (hIx : ∀ c, OwnFrom w.heap.size (Ix c)) (h0 : I [] w)
    (hassign : ∀ (l : Nat) (x : BinK p f) (W : World) (K : Act → World → Prop), K { tmps := (a.tmps.setIfInBounds q (.int .i64 ((x.1 : Nat) : Int))).setIfInBounds sb (.int .i64 ((x.1 : Nat) : Int)), defers := [] } W →
      assign.wpIn (Fence.wide.inRound l) (n - 1 - 1) Try.prog (Exit.then K (fun _ _ _ => False)) { tmps := a.tmps.setIfInBounds q (.int .i64 ((x.1 : Nat) : Int)), defers := [] } W)
    (hbody : ∀ (l : Nat) (pre : List (BinK p f)) (x : BinK p f) (W : World), I pre W →
      body.wpIn (Fence.wide.inRound l) (n - 1 - 1) Try.prog (ownPostG w.heap.size (KpB n₀ Bf) I Ix (pre ++ [x]) W) { tmps := (a.tmps.setIfInBounds q (.int .i64 ((x.1 : Nat) : Int))).setIfInBounds sb (.int .i64 ((x.1 : Nat) : Int)), defers := [] } W)
    (hdone : ∀ (W : World), I (kindsX p f p.bins.length) W → Q .normal a W)
    (hstop : ∀ (c : Code) (k : Nat) (W : World), k ≤ p.bins.length → Ix c (kindsX p f k) W → c.wpIn (Fence.wide.inRound l₀) n Try.prog Q a W) :
    (Code.rangeFunc g #[q] assign body).wpIn (Fence.wide.inRound l₀) n Try.prog Q a w := by
  refine wpIn_rangeFunc_ownN (F := Fence.wide.inRound l₀) (l₀ := l₀) rfl hl₀ (by omega) (gf := 29) (lb := #[.pointer (some ⟨Bp, 0, none⟩), .pointer (some ⟨Bf, 0, none⟩)]) hg trivial (enters_of Try.func29 (by kernel_rfl) rfl)
    (SeqStopsK.inRound l₀ (bins_stopsX Fence.wide (n - 1) trivial rfl (by omega) Bp Bf n₀ p f Ab As cb cs hlb w hn0 hBp hBf hp0 hp1 hf hA))
    (fun h k => ⟨h.1.trans k.1, k.2.trans h.2⟩)
    (fun W l o o' hl ho hc hw => ⟨belowK_b hn0 W l o o' hl ho hc hw, ((Below.refl w.heap.size W).grown (grownBy_putObj' W l o') (by have := (Array.getElem?_eq_some_iff.1 ho).1; omega) (fun k e => by cases e; exact hl)).cell (p := ⟨Bf, 0, none⟩) hBf⟩)
    (Below.refl _ _) (fun _ => rfl) I Ix hI hIx h0
    (fun x a' _ => a' = { tmps := (a.tmps.setIfInBounds q (.int .i64 ((x.1 : Nat) : Int))).setIfInBounds sb (.int .i64 ((x.1 : Nat) : Int)), defers := [] })
    (fun x a' _ X Y row hs hg' hr => hs)
    (fun l pre x W K hIp hK => ?_) (fun l pre x a' W hl hr hIp hAx hlt => ?_) (fun xs W hS hIp => ?_) (fun c pre W hS hIp => ?_)
  · have hz : Array.foldl (fun t (x : Nat × Value) => match x with | (p, v) => t.setIfInBounds p v) a.tmps (#[q].zip #[Value.int .i64 ((x.1 : Nat) : Int)]) = a.tmps.setIfInBounds q (.int .i64 ((x.1 : Nat) : Int)) := by simp
    rw [hz]
    exact hassign l x W K (hK _ _ (KeepsFrom.refl _ _) ⟨Below.refl _ _, rfl⟩ hIp rfl)
  · subst hAx
    exact hbody l pre x W hIp
  · subst hS
    exact hdone W hIp
  · obtain ⟨k, hk, rfl⟩ := hS
    exact hstop c k W hk hIp
end Wh
namespace Wh
open Go Go.RowKit Go.Shelf Go.Proofs
attribute [local go_sem] run_indexAt_letter

set_option maxHeartbeats 4000000 in
theorem flLacks (w : World) (v vs : Value) (p : Plan) (s : State) (b g : Nat) (hp : PlanV w w.heap.size v p) (hv : StateV w w.heap.size vs s) (hs : Sane p s) (hb : b < p.bins.length) (hg : g < p.sizes.length) :
    Calls Try.prog 12 #[v, vs, .int .i64 b, .int .i64 g] w fun e w' => e = .returned (.tuple #[.int .i64 ((p.bin b).high - (cell s.on b g + coming s b g)), .bool (decide (cell s.on b g + coming s b g < (p.bin b).low))]) ∧ Below w.heap.size w w' := by
  have hsn := Lib.hid hs
  have hbo : b < s.on.length := by rw [hs.onLen]; exact hb
  have hgl : g < (rowAt s.on b).length := by rw [hs.rowLen hb]; exact hg
  have hbi : (b : Int) < (s.on.length : Int) := by omega
  have hbp : (b : Int) < (p.bins.length : Int) := by omega
  have hgi : (g : Int) < ((rowAt s.on b).length : Int) := by omega
  have t1 := hs.cell hb hg
  have t2 := coming_range hs b g
  have t3 : 0 ≤ (p.bin b).high ∧ (p.bin b).high ≤ 200 := (right_bin hs.plan hb).2.2
  have hw1 : IntKind.i64.wrap (cell s.on b g + coming s b g) = cell s.on b g + coming s b g := IntWalk.i64_in _ (by omega)
  have hw2 : IntKind.i64.wrap ((p.bin b).high - (cell s.on b g + coming s b g)) = (p.bin b).high - (cell s.on b g + coming s b g) := IntWalk.i64_in _ (by omega)
  clear hs
  obtain ⟨Ab, cb, As, cs, rfl, hP', hBn, hSz, hlb, hls⟩ := openPl hp
  obtain ⟨A0, c0, A1, c1, A2, c2, A3, c3, A4, c4, A5, c5, A6, c6, rfl, hV, hN, hO, hH, hM, hI, hU, hX, hl0, hl1, hl2, hl3, hl4, hl5, hl6⟩ := openOne hv
  go_enter Try.func12, Try.ntmps12
  go_wp2_with fail
  obtain ⟨W0, hW0, hb0, hsz0, hsz1, hsE, hK⟩ := boxesTwo w p s Ab cb As cs A0 c0 A1 c1 A2 c2 A3 c3 A4 c4 A5 c5 A6 c6
  rw [hW0]
  clear hW0
  obtain ⟨⟨y0, y1⟩, x0, x1, x2, x3, x4, x5, x6, hbz0, hbz1⟩ := hK.out W0 (Below.refl W0.heap.size W0)
  obtain ⟨Ar, cr, or0, lr0, rr0, hrow⟩ := (hN.out W0 hb0).row hbo
  obtain ⟨or1, lr1, rr1⟩ := hrow.at_.int hgl
  change W0.cell? _ = some (.int .i64 (cell s.on b g)) at rr1
  have q1 := fun o d os => cells_wld (w := W0) (b := w.heap.size + 1) hbz0 o d os
  have q2 := fun o d os => cells_wld (w := W0) (b := ablk A0) lr0 o d os
  have q3 := fun o d os => cells_wld (w := W0) (b := ablk Ar) lr1 o d os
  have hV2 := Lib.hid (fun d os => hV.out _ (hb0.trans ((below_wld W0 d os).mono hb0.size)))
  go_wp2_with fail
  refine wp_region_wld (by kernel_rfl) (by kernel_rfl) ?_
  repeat (go_big_quiet_step ((go_at_call 30; refine calls_wld (sComing _ _ p s b g (hV2.out _ _) hsn.out))))
  refine wpQuiet_nil ?_
  intro W1 hw'
  have hb1 := below_of_cls hw'
  clear hw'
  clear q1 q2 q3 hV2 or0 lr0 rr0 hrow or1 lr1 rr1
  clear y0 y1 x0 x1 x2 x3 x4 x5 x6 hbz0 hbz1
  have hB1 := hb0.trans (hb1.mono hb0.size)
  obtain ⟨⟨y0, y1⟩, x0, x1, x2, x3, x4, x5, x6, hbz0, hbz1⟩ := hK.out W1 (hb1)
  obtain ⟨ob, lb, e0, e1, e2, e3⟩ := (hBn.out W1 hB1).at_.bin hb
  change W1.cell? _ = some (.int .i64 (p.bin b).low) at e2
  change W1.cell? _ = some (.int .i64 (p.bin b).high) at e3
  clear e0 e1
  go_wp2_with fail
  go_quiet (fail)
  have hBd := below_drewN hB1 nq
  go_wp2_with fail
  exact bodyPost_ret (v := .tuple #[.int .i64 ((p.bin b).high - (cell s.on b g + coming s b g)), .bool (decide (cell s.on b g + coming s b g < (p.bin b).low))]) (by simp [results, Try.results12, go_sem]) rfl ⟨rfl, hBd⟩
end Wh
namespace Wh

/-- t is what comes of s by holding, once each, for the lines of S. -/
structure Taken (p : Plan) (S : Nat → Nat → Prop) (s t : State) : Prop where
  right : Right p t
  on : t.on = s.on
  moves : t.moves = s.moves
  inn : t.inn = s.inn
  out : t.out = s.out
  fixed : t.fixed = s.fixed
  orders : t.orders.length = s.orders.length
  kind : ∀ o, (t.order o).kind = (s.order o).kind
  lines : ∀ o, (t.order o).lines.length = (s.order o).lines.length
  line : ∀ o k, (t.line o k).good = (s.line o k).good ∧ (t.line o k).want = (s.line o k).want ∧ (t.line o k).got = (s.line o k).got
  less : ∀ b g : Int, avail t b g ≤ avail s b g
  back : ∀ o k, ¬ S o k → (t.line o k).back = (s.line o k).back
  kept : ∀ o k : Nat, ¬ S o k → Wh.kept t.holds o k = Wh.kept s.holds o k
  done : ∀ o k, S o k → o < s.orders.length → k < (s.order o).lines.length → (s.order o).kind = 1 → 0 < (t.line o k).back → ∀ b, b < p.bins.length → avail t b (s.line o k).good = 0
  none : ∀ o k, S o k → o < s.orders.length → k < (s.order o).lines.length → (∀ b : Nat, b < p.bins.length → avail s b (s.line o k).good = 0) → Wh.kept t.holds o k = Wh.kept s.holds o k
theorem line_avail {p : Plan} {s : State} (h : Right p s) {o k b : Nat} (ho : o < s.orders.length) (hk : k < (s.order o).lines.length) (hb : b < p.bins.length) : 0 ≤ avail s b (s.line o k).good := by
  have h1 := (h.sane.line ho hk).1
  obtain ⟨g, hg⟩ : ∃ g : Nat, (s.line o k).good = g := ⟨(s.line o k).good.toNat, by omega⟩
  rw [hg] at h1 ⊢
  exact (h.avail_range hb (by omega)).1
namespace Taken
variable {p : Plan} {S S' : Nat → Nat → Prop} {s t u : State}
theorem same (h : Right p s) (hS : ∀ o k, S o k → o < s.orders.length → k < (s.order o).lines.length → (s.order o).kind ≠ 1) : Taken p S s s :=
  ⟨h, rfl, rfl, rfl, rfl, rfl, rfl, fun _ => rfl, fun _ => rfl, fun _ _ => ⟨rfl, rfl, rfl⟩, fun _ _ => Int.le_refl _, fun _ _ _ => rfl, fun _ _ _ => rfl, fun o k hs ho hk hkd => absurd hkd (hS o k hs ho hk), fun _ _ _ _ _ _ => rfl⟩
theorem mono (h : Taken p S s t) (h1 : ∀ o k, S o k → S' o k) (h2 : ∀ o k, o < s.orders.length → k < (s.order o).lines.length → S' o k → S o k) : Taken p S' s t :=
  { h with back := fun o k hn => h.back o k fun hs => hn (h1 o k hs), kept := fun o k hn => h.kept o k fun hs => hn (h1 o k hs), done := fun o k hs ho hk => h.done o k (h2 o k ho hk hs) ho hk, none := fun o k hs ho hk => h.none o k (h2 o k ho hk hs) ho hk }
theorem trans (h : Taken p S s t) (h' : Taken p S' t u) (hd : ∀ o k, S o k → S' o k → False) : Taken p (fun o k => S o k ∨ S' o k) s u := by
  refine ⟨h'.right, h'.on.trans h.on, h'.moves.trans h.moves, h'.inn.trans h.inn, h'.out.trans h.out, h'.fixed.trans h.fixed, h'.orders.trans h.orders, fun o => (h'.kind o).trans (h.kind o), fun o => (h'.lines o).trans (h.lines o), fun o k => ?_,
    fun b g => Int.le_trans (h'.less b g) (h.less b g), fun o k hn => ?_, fun o k hn => ?_, fun o k hs ho hk hkd hb b hbn => ?_, fun o k hs ho hk hz => ?_⟩
  · obtain ⟨a1, a2, a3⟩ := h.line o k
    obtain ⟨b1, b2, b3⟩ := h'.line o k
    exact ⟨b1.trans a1, b2.trans a2, b3.trans a3⟩
  · exact (h'.back o k fun hs => hn (.inr hs)).trans (h.back o k fun hs => hn (.inl hs))
  · exact (h'.kept o k fun hs => hn (.inr hs)).trans (h.kept o k fun hs => hn (.inl hs))
  · have ho' : o < t.orders.length := by rw [h.orders]; exact ho
    have hk' : k < (t.order o).lines.length := by rw [h.lines]; exact hk
    rcases hs with hs | hs
    · rw [h'.back o k (hd o k hs)] at hb
      have h1 := h.done o k hs ho hk hkd hb b hbn
      have h2 := h'.less b (s.line o k).good
      have h3 := line_avail h'.right (o := o) (k := k) (b := b) (by rw [h'.orders]; exact ho') (by rw [h'.lines]; exact hk') hbn
      rw [(h'.line o k).1, (h.line o k).1] at h3
      omega
    · have := h'.done o k hs ho' hk' (by rw [h.kind]; exact hkd) hb b hbn
      rwa [(h.line o k).1] at this
  · have ho' : o < t.orders.length := by rw [h.orders]; exact ho
    have hk' : k < (t.order o).lines.length := by rw [h.lines]; exact hk
    rcases hs with hs | hs
    · exact (h'.kept o k (hd o k hs)).trans (h.none o k hs ho hk hz)
    · rw [h'.none o k hs ho' hk' (fun b hbn => by
        have h1 := hz b hbn
        have h2 := h.less b (s.line o k).good
        have h3 := line_avail h.right ho' hk' hbn
        rw [(h.line o k).1] at h3 ⊢
        omega)]
      exact h.kept o k fun hs' => hd o k hs' hs
end Taken

-- orders that are freed
-- released once more
-- who was entered first has first
-- who is cancelled
end Wh
namespace Wh
open Go Go.RowKit
section
variable {P : Program} {l : List Oper} {n : Nat} {R : Nat → (Nat → Value) → World → Prop} {Q : Exit → Act → World → Prop} {a : Act} {w : World}
/-- What is to be shown of one operation: the one that breaks J may use it. -/
def StepBrk (P : Program) (l : List Oper) (n : Nat) (R : Nat → (Nat → Value) → World → Prop) (Q : Exit → Act → World → Prop) (a : Act) (T J : World → Prop) (Eb : World → World → Prop) (brk i : Nat) (o : Oper) : Prop :=
  ∀ f w', T w' → (i = brk → J w') → Deps n R f w' o →
    o.wp P (fillA a (l.take n) f) w' (fun a' w'' => ∃ v, a' = (fillA a (l.take n) f).put o.dst v ∧ R i (updO f o.dst v) w'' ∧ ((i ≠ brk ∧ Below w'.heap.size w' w'') ∨ (i = brk ∧ Eb w' w''))) Q
theorem OpRel.mono {P : Program} {o : Oper} {ev : Operand → Value} {w : World} {K K' : Value → World → Prop} (hk : ∀ v w, K v w → K' v w) (h : OpRel P o ev w K) : OpRel P o ev w K' := by
  unfold OpRel at *
  generalize (execOp ev o).run P w = r at *
  cases r with
  | ok n w' =>
    cases n <;> simp only at h ⊢
    case value v => exact hk _ _ h
    case skip => exact hk _ _ h
    case enter f args => exact h.mono fun e w'' ⟨v, he, h⟩ => ⟨v, he, hk _ _ h⟩
  | halt x w' => exact h
theorem StepBrk.of {T J : World → Prop} {Eb : World → World → Prop} {brk : Nat} {i : Nat} {o : Oper} (hi : i < n) (hB : relB l n = true) (hsz : ((l.take n).filterMap (·.dst)).all (fun d => decide (d < a.tmps.size)) = true)
    (hsup : ∀ i g g' w, (∀ j o d, Anc l j i → l[j]? = some o → o.dst = some d → g d = g' d) → R i g w → R i g' w)
    (h : ∀ (g : Nat → Value) w', T w' → (i = brk → J w') → (∀ d, ((l.take n).filterMap (·.dst)).contains d = false → g d = a.tmps.getD d undef) → Deps n R g w' o → OpRel P o (evL g) w' fun v w'' => R i (updO g o.dst v) w'' ∧ ((i ≠ brk ∧ Below w'.heap.size w' w'') ∨ (i = brk ∧ Eb w' w''))) :
    StepBrk P l n R Q a T J Eb brk i o := by
  simp only [relB, Bool.and_eq_true, Bool.or_eq_true, decide_eq_true_eq, List.all_eq_true] at hB
  obtain ⟨_, hback⟩ := hB
  have hback' : ∀ k oe, k < n → l[k]? = some oe → ∀ e ∈ oe.after, Region.binds .any e = true → e.on < k := fun k oe hk hoe e he hbd => by
    have := hback k (List.mem_range.2 hk)
    rw [hoe] at this
    simp only [Option.map_some, Option.getD_some, Array.all_eq_true_iff_forall_mem, Bool.or_eq_true, Bool.not_eq_true', decide_eq_true_eq] at this
    rcases this e he with h | h
    · rw [h] at hbd; cases hbd
    · exact h
  have hanc : ∀ j k, Anc l j k → k < n → j < n := by
    intro j k h
    induction h with
    | self => exact id
    | back ho he hbd hon _ ih =>
      intro h1
      subst hon
      have := hback' _ _ h1 ho _ he hbd
      exact ih (by omega)
  have hsz' : ∀ d ∈ (l.take n).filterMap (·.dst), d < a.tmps.size := fun d hd => by
    have := List.all_eq_true.1 hsz d hd
    simpa using this
  intro f w' hb hj hd
  have hg : ∀ d ∈ (l.take n).filterMap (·.dst), (fillA a (l.take n) f).tmps.getD d undef = f d := fun d hd => by
    have h1 := fillT_get ((l.take n).filterMap (·.dst)) f a.tmps d
    rw [if_pos (hsz' d hd), if_pos hd] at h1
    unfold fillA
    simp only [Array.getD_eq_getD_getElem?, h1, Option.getD_some]
  have ho : ∀ d, ((l.take n).filterMap (·.dst)).contains d = false → (fillA a (l.take n) f).tmps.getD d undef = a.tmps.getD d undef := fun d hd => by
    have h1 := fillT_get ((l.take n).filterMap (·.dst)) f a.tmps d
    have h2 : d ∉ (l.take n).filterMap (·.dst) := by simpa using hd
    rw [if_neg h2] at h1
    unfold fillA
    simp only [Array.getD_eq_getD_getElem?, h1]
    by_cases hl : d < a.tmps.size
    · rw [if_pos hl]
    · rw [if_neg hl, Array.getElem?_eq_none (Nat.le_of_not_lt hl)]
  have key := h (fun d => (fillA a (l.take n) f).tmps.getD d undef) w' hb hj ho (fun e he hbd hen => hsup e.on f _ _ (fun j oj d haj hoj hdj => (hg d (dst_mem hoj (hanc _ _ haj hen) hdj)).symm) (hd e he hbd hen))
  rw [← evL_eval] at key
  refine Oper.wp_mono ?_ key.wp
  rintro a' w'' ⟨v, rfl, hr, hbw⟩
  refine ⟨v, rfl, hsup i _ _ _ (fun j oj d haj hoj hdj => ?_) hr, hbw⟩
  have hjn := hanc _ _ haj hi
  have hmem := dst_mem hoj hjn hdj
  cases hdst : o.dst with
  | none => exact hg d hmem
  | some d0 =>
    unfold updO upd
    simp only
    split
    · rfl
    · exact hg d hmem

/-- One operation: what it says stays, hangs on what came before it alone, and comes. -/
def OpBrk (P : Program) (l : List Oper) (n : Nat) (Rs : List RelP) (a : Act) (T J : World → Prop) (Eb : World → World → Prop) (brk i : Nat) (o : Oper) (p : RelP) : Prop :=
  (∀ g w1 w2, p g w1 → Below w1.heap.size w1 w2 → p g w2) ∧ (i ≠ brk → ∀ g w1 w2, p g w1 → Eb w1 w2 → p g w2) ∧ (∀ g g' w, (∀ j o d, Anc l j i → l[j]? = some o → o.dst = some d → g d = g' d) → p g w → p g' w) ∧
  ∀ g w', T w' → (i = brk → J w') → (∀ d, ((l.take n).filterMap (·.dst)).contains d = false → g d = a.tmps.getD d undef) → Deps n (atR Rs) g w' o →
    OpRel P o (evL g) w' fun v w'' => p (updO g o.dst v) w'' ∧ ((i ≠ brk ∧ Below w'.heap.size w' w'') ∨ (i = brk ∧ Eb w' w''))
def OpsBrk (P : Program) (l : List Oper) (n : Nat) (Rs : List RelP) (a : Act) (T J : World → Prop) (Eb : World → World → Prop) (brk : Nat) : Nat → List Oper → List RelP → Prop
  | _, [], _ => True
  | _, _ :: _, [] => False
  | i, o :: r, p :: ps => OpBrk P l n Rs a T J Eb brk i o p ∧ OpsBrk P l n Rs a T J Eb brk (i + 1) r ps
section
variable {Rs : List RelP} {T J : World → Prop} {Eb : World → World → Prop} {brk : Nat}
theorem OpsBrk.at : ∀ {r : List Oper} {ps : List RelP} {k : Nat}, OpsBrk P l n Rs a T J Eb brk k r ps → ∀ {j : Nat} {o : Oper}, r[j]? = some o → OpBrk P l n Rs a T J Eb brk (k + j) o (ps.getD j (fun _ _ => True))
  | [], _, _, _, _, _, h => by simp at h
  | _ :: _, [], _, h, _, _, _ => h.elim
  | x :: r, p :: ps, k, h, 0, o, hj => by
    simp at hj
    subst hj
    exact h.1
  | x :: r, p :: ps, k, h, j + 1, o, hj => by
    have := OpsBrk.at h.2 (j := j) (o := o) (by simpa using hj)
    rw [show k + 1 + j = k + (j + 1) by omega] at this
    simpa using this
theorem OpsBrk.nil {i : Nat} {ps : List RelP} : OpsBrk P l n Rs a T J Eb brk i [] ps := by cases ps <;> trivial
theorem OpsBrk.cons {i : Nat} {o : Oper} {r : List Oper} {p : RelP} {ps : List RelP} (h : OpBrk P l n Rs a T J Eb brk i o p) (h' : OpsBrk P l n Rs a T J Eb brk (i + 1) r ps) : OpsBrk P l n Rs a T J Eb brk i (o :: r) (p :: ps) := ⟨h, h'⟩
end
section
variable {Rs : List RelP} {T J : World → Prop} {Eb : World → World → Prop} {brk : Nat}
theorem OpBrk.val {i d : Nat} {o : Oper} {c : Value} (hi : l[i]? = some o) (ho : o.dst = some d) (hne : i ≠ brk)
    (h : ∀ g w', T w' → (∀ d, ((l.take n).filterMap (·.dst)).contains d = false → g d = a.tmps.getD d undef) → Deps n (atR Rs) g w' o → (execOp (evL g) o).run P w' = .ok (.value c) w') :
    OpBrk P l n Rs a T J Eb brk i o (fun g _ => g d = c) := by
  refine ⟨fun _ _ _ h _ => h, fun _ _ _ _ h _ => h, fun g g' _ he h => (he i o d (Anc.self i) hi ho).symm.trans h, fun g w' hb _ hout hd => ?_⟩
  unfold OpRel
  rw [h g w' hb hout hd]
  refine ⟨?_, .inl ⟨hne, Below.refl _ _⟩⟩
  rw [ho]
  unfold updO upd
  simp
theorem OpBrk.one {i d : Nat} {o : Oper} {p : Value → World → Prop} (hi : l[i]? = some o) (ho : o.dst = some d) (hne : i ≠ brk) (hst : ∀ v w1 w2, p v w1 → Below w1.heap.size w1 w2 → p v w2) (hst2 : ∀ v w1 w2, p v w1 → Eb w1 w2 → p v w2)
    (h : ∀ g w', T w' → (∀ d, ((l.take n).filterMap (·.dst)).contains d = false → g d = a.tmps.getD d undef) → Deps n (atR Rs) g w' o → OpRel P o (evL g) w' fun v w'' => p v w'' ∧ Below w'.heap.size w' w'') :
    OpBrk P l n Rs a T J Eb brk i o (fun g w => p (g d) w) := by
  refine ⟨fun g w1 w2 h hb => hst _ _ _ h hb, fun _ g w1 w2 h hb => hst2 _ _ _ h hb, fun g g' w1 he h => ?_, fun g w' hb _ hout hd => ?_⟩
  · show p (g' d) w1
    rw [← he i o d (Anc.self i) hi ho]
    exact h
  · have h1 := h g w' hb hout hd
    rw [ho]
    have e : ∀ v, updO g (some d) v d = v := fun v => by unfold updO upd; simp
    simp only [e]
    exact OpRel.mono (fun v w'' h => ⟨h.1, .inl ⟨hne, h.2⟩⟩) h1
end
end
end Wh
