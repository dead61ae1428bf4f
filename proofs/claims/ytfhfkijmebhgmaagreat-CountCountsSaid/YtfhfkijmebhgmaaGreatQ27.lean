/- Texts of the claim, joined: CountA, RangeMem, CountB, RegIn, FillQ, FillR, CountR, InRound. -/
import Derived.RangeFuncBox
import Derived.RangeFuncCalls
import Derived.RangeFuncNested
import Derived.Sort.QuietThIn
import Derived.OwnWalkIn
import Derived.OrdersIn
import Derived.Test.YtfhfkijmebhgmaaGreatQ20
import Derived.Test.YtfhfkijmebhgmaaGreatQ12
import Derived.Test.YtfhfkijmebhgmaaGreatQ01
import Derived.Test.YtfhfkijmebhgmaaGreatQ06
import Derived.Test.YtfhfkijmebhgmaaGreatQ21
import Derived.Test.YtfhfkijmebhgmaaGreatQ08
import Derived.Test.YtfhfkijmebhgmaaGreatQ22
import Derived.Test.YtfhfkijmebhgmaaGreatQ11
import Derived.Test.YtfhfkijmebhgmaaGreatQ09
import Derived.Test.YtfhfkijmebhgmaaGreatQ19
namespace Wh
open Go Go.RowKit Go.Shelf Go.Proofs
attribute [local go_sem] run_indexAt_letter

theorem Bx.setRest {w : World} {base b : Nat} {t : TypeId} {rest : List Value} {V : SV} {s : State} (h : Bx w base b t rest V s) (j : Nat) (u : Value) :
    Bx (w.setCell ⟨b, 7 + j, none⟩ u) base b t (rest.set j u) V s ∧ w.grownBy (w.setCell ⟨b, 7 + j, none⟩ u) (some b) := by
  obtain ⟨h1, h2⟩ := set_row h.box (7 + j) u
  have e : (V.cells ++ rest).set (7 + j) u = V.cells ++ rest.set j u := by
    rw [List.set_append_right _ _ (by simp [SV.cells])]
    simp [SV.cells]
  rw [e] at h1
  exact ⟨⟨h1, h.own.keptBy h2 h.box h.ty.h1 h.ty.h2 h.ty.h3 h.ty.h4 h.ty.h5 h.ty.h6, h.ty⟩, h2⟩
theorem boxTC : BoxT 95 := ⟨by decide, by decide, by decide, by decide, by decide, by decide⟩
/-- The cutter's own numbers. -/
abbrev cutR (bin good over : Int) (m : Value) : List Value := [.int .i64 bin, .int .i64 good, .int .i64 over, m]

set_option maxHeartbeats 4000000 in
theorem ctLess (w : World) (n : Int) {base b : Nat} {V : SV} {s : State} {bin good over : Int} {m : Value} (hB : Bx w base b 95 (cutR bin good over m) V s) (hn : 0 ≤ n ∧ n ≤ 200) (ho : -1000000 ≤ over ∧ over ≤ 1000000) :
    Calls Tryz.prog 115 #[.pointer (some ⟨b, 0, none⟩), .int .i64 n] w fun e w' => e = .returned (.int .i64 (Cutter.less over n)) ∧ Bx w' base b 95 (cutR bin good (over - Cutter.less over n) m) V s ∧ Step (· = b) w w' := by
  have hB' := Lib.hid hB
  have r1 := hB.box.cell (j := 9) rfl
  have f1 := hB.box.frozen 9
  have hw : IntKind.i64.wrap (over - n) = over - n := IntWalk.i64_in _ (by omega)
  have hw2 : IntKind.i64.wrap over = over := IntWalk.i64_in _ (by omega)
  have fin : ∀ q r : Int, q = Cutter.less over n → r = over - Cutter.less over n → Ending.returned (.int .i64 q) = .returned (.int .i64 (Cutter.less over n)) ∧ Bx (w.setCell ⟨b, 9, none⟩ (.int .i64 r)) base b 95 (cutR bin good (over - Cutter.less over n) m) V s ∧ Step (· = b) w (w.setCell ⟨b, 9, none⟩ (.int .i64 r)) := by
    rintro q r rfl rfl
    obtain ⟨h1, h2⟩ := hB'.out.setRest 2 (.int .i64 (over - Cutter.less over n))
    exact ⟨rfl, h1, .of_grown h2 fun k hk => by injection hk with hk; exact hk.symm⟩
  clear hB
  have fin' := Lib.hid fin
  clear fin
  go_enter Tryz.func115, Tryz.ntmps115
  go_wp2_with fail
  all_goals
    go_ret
    exact fin'.out _ _ (by unfold Cutter.less; omega) (by unfold Cutter.less; omega)
end Wh
namespace Wh
open Go Go.RowKit

theorem wpIn_rangeFunc_mem {α : Type} {F : Fence} {n : Nat} {P : Program} {g : Operand} {ps : Array Tmp} {assign body : Code} {Q : Exit → Act → World → Prop} {a : Act} {w : World}
    (hro : F.round = none) (h1 : 1 ≤ n) {gf : Nat} {lb : Array Value} (hg : a.eval g = .func (.func gf) #[] lb) (hFg : F.fn gf) (eg : ∀ args w, (callFunc gf args).run P w = .ok (.enter gf args) w)
    {encs : α → Array Value} (hps : ∀ x, (encs x).size = ps.size)
    (I : List α → World → Prop) (hI : OwnFrom w.heap.size I) (h0 : I [] w) (Nx : List α → α → Prop) (S : List α → Prop)
    (hseq : ∀ (l : Nat) (J : List α → World → Prop) (W : World), Below w.heap.size w W → (∀ pre V, J pre V → I pre V) → AbidesFrom W.heap.size J →
      (∀ pre x V, J pre V → Nx pre x → YieldAt F (n - 1 - 1) P l (encs x) V fun e V' => e = .returned (.bool true) ∧ J (pre ++ [x]) V') → J [] W →
      CallsIn F (n - 1) P gf (#[.func (.yield l) #[] #[]] ++ lb) W fun e V => (∃ v, e = .returned v) ∧ ∃ xs, S xs ∧ J xs V)
    (Ax : α → Act → World → Prop) (hAx : ∀ x a', OwnFrom w.heap.size (fun (_ : Unit) W => Ax x a' W))
    (hassign : ∀ (l : Nat) (pre : List α) (x : α) (W : World) (K : Act → World → Prop), I pre W → (∀ a' W', KeepsFrom w.heap.size W W' → I pre W' → Ax x a' W' → K a' W') →
      assign.wpIn (F.inRound l) (n - 1 - 1) P (Exit.then K (fun _ _ _ => False)) { tmps := (ps.zip (encs x)).foldl (fun t (p, v) => t.setIfInBounds p v) a.tmps, defers := [] } W)
    (hbody : ∀ (l : Nat) (pre : List α) (x : α) (a' : Act) (W : World), w.heap.size ≤ l → I pre W → Nx pre x → Ax x a' W →
      body.wpIn (F.inRound l) (n - 1 - 1) P (Exit.then (fun _ W' => KeepsFrom w.heap.size W W' ∧ I (pre ++ [x]) W') (fun _ _ _ => False)) a' W)
    (hdone : ∀ (D : Nat) (xs : List α) (W : World), w.heap.size ≤ D → S xs → I xs W → W.heap[D]? = some (.deferred (some [])) → Q .normal { a with defers := { target := .collected D, args := #[] } :: a.defers } W) :
    (Code.rangeFunc g ps assign body).wpIn F n P Q a w := by
  refine wpIn_rangeFunc fun fn hfn => ?_
  rw [hro]
  obtain ⟨rec, hrec⟩ : ∃ rec : LoopState → Loop, rec = fun st => { state := st, pending := none, fn, tmps := a.tmps, params := ps, assign, body, defers := w.heap.size } := ⟨_, rfl⟩
  have hba : Below w.heap.size w ((w.alloc (.deferred (some []))).alloc (.loop (rec .ready))) := ((Below.refl _ w).alloc (Nat.le_refl _) _).alloc (by simp) _
  have hL : ((w.alloc (.deferred (some []))).alloc (.loop (rec .ready))).heap[w.heap.size + 1]? = some (.loop (rec .ready)) := by
    have := World.alloc_heap_new (w.alloc (.deferred (some []))) (.loop (rec .ready))
    rwa [World.size_alloc] at this
  have hD : ((w.alloc (.deferred (some []))).alloc (.loop (rec .ready))).heap[w.heap.size]? = some (.deferred (some [])) := (Below.heap_alloc _ _ _ (by simp)).trans (World.alloc_heap_new w _)
  have hi0 : I [] ((w.alloc (.deferred (some []))).alloc (.loop (rec .ready))) := hI.alloc _ (hI.alloc _ h0)
  have hent := run_enterLoop_outer (P := P) (w := w) fn a.tmps ps assign body
  have hsz : ((w.alloc (.deferred (some []))).alloc (.loop (rec .ready))).heap.size = w.heap.size + 2 := by simp
  have hent' : (Instr.enterLoop fn a.tmps ps assign body none).run P w = .ok (w.heap.size + 1, [{ target := .collected w.heap.size, args := #[] }]) ((w.alloc (.deferred (some []))).alloc (.loop (rec .ready))) := by
    rw [hent, hrec]
  clear hent
  generalize (w.alloc (.deferred (some []))).alloc (.loop (rec .ready)) = W1 at hba hL hD hi0 hsz hent'
  refine ⟨w.heap.size + 1, [{ target := .collected w.heap.size, args := #[] }], W1, { target := .fn (.func gf) lb, args := #[.func (.yield (w.heap.size + 1)) #[] #[]] }, W1, gf, #[.func (.yield (w.heap.size + 1)) #[] #[]] ++ lb, W1, hent', ?_, ?_, ?_, fun _ => h1, ?_⟩
  · simp only [resolve, hg]
    simp [go_sem]
  · intro f' hf'
    simp [Target.leads] at hf'
    subst hf'
    exact hFg
  · simp [invoke, go_sem, eg]
  · have hturn : ∀ {A B : World} {row : Option Nat} {k : Nat} {o : Obj}, A.grownBy B row → (∀ r, row = some r → W1.heap.size ≤ r ∧ ∃ o : Obj, A.heap[r]? = some o ∧ o.isWalk = true) → k < w.heap.size + 2 → A.heap[k]? = some o → B.heap[k]? = some o := fun hg' hr hk ho =>
      (hg'.block _ (Array.getElem?_eq_some_iff.1 ho).1 (fun e => by have := (hr _ e.symm).1; omega)).trans ho
    refine (hseq (w.heap.size + 1) (fun pre W => I pre W ∧ W.heap[w.heap.size + 1]? = some (.loop (rec .ready)) ∧ W.heap[w.heap.size]? = some (.deferred (some []))) W1 hba (fun _ _ h => h.1)
      (fun s A B row hs hg' hr => ⟨hI s A B row hs.1 hg' (fun r e => by obtain ⟨hB, o, ho, hw⟩ := hr r e; exact ⟨by omega, o, ho, Obj.not_cells_of_walk hw⟩), hturn hg' hr (by omega) hs.2.1, hturn hg' hr (by omega) hs.2.2⟩) ?_ ⟨hi0, hL, hD⟩).mono ?_
    · rintro pre x W ⟨hi, hl, hk⟩ hnx
      have hlt : w.heap.size + 1 < W.heap.size := (Array.getElem?_eq_some_iff.1 hl).1
      have hy := run_yield (P := P) (args := encs x) hl (by rw [hrec]; exact hps x)
      rw [hrec] at hy
      refine ⟨fn, _, assign, body, hy, roundIn_of_wpIn hfn (hassign _ pre x W _ hi ?_)⟩
      clear hy
      intro a' Wa hkf hia hax
      have hla := hkf.same _ _ (by omega) hl rfl
      have hka := hkf.same _ _ (Nat.le_refl _) hk rfl
      refine ⟨_, run_beginRound hla (by rw [hrec]), ?_⟩
      have hltA : w.heap.size + 1 < Wa.heap.size := (Array.getElem?_eq_some_iff.1 hla).1
      have hl2 : (Wa.putObj (w.heap.size + 1) (.loop { rec .ready with state := .busy })).heap[w.heap.size + 1]? = some (.loop { rec .ready with state := .busy }) := World.putObj_heap_same hltA
      have hk2 : (Wa.putObj (w.heap.size + 1) (.loop { rec .ready with state := .busy })).heap[w.heap.size]? = some (.deferred (some [])) := (World.putObj_heap_other (by omega)).trans hka
      refine wpIn_mono (hbody _ pre x a' _ (by omega) (hI.putObj _ hia (by omega) hla rfl) hnx ((hAx x a').putObj (s := ()) _ hax (by omega) hla rfl)) ?_
      rintro e a3 W3 hp
      cases e with
      | normal =>
        obtain ⟨hk3, hi3⟩ := hp
        have hl3 := hk3.same _ _ (by omega) hl2 rfl
        have hd3 := hk3.same _ _ (Nat.le_refl _) hk2 rfl
        have hlt3 : w.heap.size + 1 < W3.heap.size := (Array.getElem?_eq_some_iff.1 hl3).1
        have hend := run_endRound (P := P) none hl3
        refine ⟨_, _, hend, rfl, hI.putObj _ hi3 (by omega) hl3 rfl, ?_, ?_⟩
        · have := World.putObj_heap_same (o := Obj.loop { ({ rec .ready with state := .busy } : Loop) with state := .ready, pending := none }) hlt3
          rw [hrec] at this ⊢
          exact this
        · exact (World.putObj_heap_other (by omega)).trans hd3
      | ret => exact hp.elim
      | exit id => exact hp.elim
      | goto t => exact hp.elim
      | panic ch => exact hp.elim
      | outgrown => exact hp.elim
    · rintro e W2 ⟨⟨v, rfl⟩, xs, hS, hi, hl, hk⟩
      have hend := run_endLoop (P := P) hl (by rw [hrec]; simp)
      refine ⟨none, _, by rw [hrec] at hend; exact hend, hdone _ xs _ (Nat.le_refl _) hS (hI.putObj _ hi (by omega) hl rfl) ((World.putObj_heap_other (by omega)).trans hk)⟩
end Wh
namespace Wh
open Go Go.RowKit Go.Shelf Go.Proofs
attribute [local go_sem] run_indexAt_letter
attribute [local go_sem] Oper.semAt_some

theorem backMove_in (n : Nat) (A : Option Addr) (k c : Nat) (w : World) :
    CallsIn Fence.wide n Tryz.prog 114 #[.slice A k c] w fun e w' => e = .returned (.func (.func 158) #[] #[.pointer (some ⟨w.heap.size, 0, none⟩)]) ∧
      w' = w.alloc (.cells #[.slice A k c] 29) := by
  refine callsIn_of_wp Tryz.func114 rfl trivial ?_ rfl
  simp only [Tryz.ntmps114, List.size_toArray, List.length_cons, List.length_nil, Nat.reduceAdd, Nat.reduceSub, Array.replicate_succ, Array.replicate_zero, List.push_toArray, List.append_toArray, List.nil_append, List.cons_append]
  gi_wp2
  go_ret
  exact ⟨rfl, rfl⟩
/-- What the iterator reads: its own box, and the elements that are still to come. -/
def ReadsMove (Bs : Nat) (A : Option Addr) (c : Nat) (xs : List Move) (k : Nat) (V : World) : Prop :=
  V.cell? ⟨Bs, 0, none⟩ = some (.slice A xs.length c) ∧ ∀ i, i + k < xs.length → ∃ g, A = some ⟨g, 0, none⟩ ∧ V.cell? ⟨g, i * 4, none⟩ = some (.int .i64 (moveAt xs i).good) ∧ V.cell? ⟨g, i * 4 + 1, none⟩ = some (.int .i64 (moveAt xs i).src) ∧
    V.cell? ⟨g, i * 4 + 2, none⟩ = some (.int .i64 (moveAt xs i).dst) ∧ V.cell? ⟨g, i * 4 + 3, none⟩ = some (.int .i64 (moveAt xs i).n)
set_option maxRecDepth 100000 in
set_option maxHeartbeats 4000000 in
theorem backMove_seq (n l Bs : Nat) (A : Option Addr) (c : Nat) (xs : List Move) (hn : 1 ≤ n) (hlen : xs.length ≤ 1000000) (J : List Nat → World → Prop) (W : World) (hJ : ∀ pre V, J pre V → ReadsMove Bs A c xs pre.length V)
    (hY : ∀ pre x V, J pre V → (x + pre.length + 1 = xs.length) → YieldAt Fence.wide (n - 1) Tryz.prog l #[.int .i64 (x : Nat), vMove (moveAt xs x)] V fun e V' => e = .returned (.bool true) ∧ J (pre ++ [x]) V') (h0 : J [] W) :
    CallsIn Fence.wide n Tryz.prog 158 (#[.func (.yield l) #[] #[]] ++ #[.pointer (some ⟨Bs, 0, none⟩)]) W fun e V => (∃ v, e = .returned v) ∧ ∃ ys, ys.length = xs.length ∧ J ys V := by
  change CallsIn Fence.wide n Tryz.prog _ #[.func (.yield l) #[] #[], .pointer (some ⟨Bs, 0, none⟩)] W _
  refine callsIn_of_wp Tryz.func158 rfl trivial ?_ rfl
  simp only [Tryz.ntmps158, List.size_toArray, List.length_cons, List.length_nil, Nat.reduceAdd, Nat.reduceSub, Array.replicate_succ, Array.replicate_zero, List.push_toArray, List.append_toArray, List.nil_append, List.cons_append]
  obtain ⟨b0, _⟩ := hJ _ _ h0
  have hw0 : IntKind.i64.wrap ((xs.length : Int) - 1) = (xs.length : Int) - 1 := IntWalk.i64_in _ (by omega)
  gi_wp2
  clear b0
  gi_loopw [3] (fun i wr => ∃ (j : Nat) (pre : List Nat), j + pre.length = xs.length ∧ i = .int .i64 ((j : Int) - 1) ∧ J pre wr) (fun i _ => (intOf i + 1).toNat)
  case atStart => exact ⟨xs.length, [], rfl, rfl, h0⟩
  case round =>
    clear h0 hw0
    obtain ⟨j, pre, hj, rfl, hJr⟩ := hrel
    cases j with
    | zero =>
      have t1 : decide ((0 : Int) ≤ ((0 : Nat) : Int) - 1) = false := by simp
      gi_wp2
      go_end0
      exact ⟨⟨_, rfl⟩, pre, by omega, hJr⟩
    | succ m =>
      have e1 : ((m + 1 : Nat) : Int) - 1 = (m : Int) := by omega
      rw [e1]
      obtain ⟨b0, hrd⟩ := hJ _ _ hJr
      obtain ⟨g, rfl, q0, q1, q2, q3⟩ := hrd m (by omega)
      have hm1 : (m : Int) < (xs.length : Int) := by omega
      have hwm : IntKind.i64.wrap ((m : Int) - 1) = (m : Int) - 1 := IntWalk.i64_in _ (by omega)
      obtain ⟨fn, tmps, assign, body, hy, hR⟩ := hY pre m wr hJr (by omega)
      unfold vMove at hy
      gi_wp2
      refine hR.mono ?_
      rintro e W3 ⟨rfl, hJ3⟩
      gi_wp2
      go_roundw
      case rel => exact ⟨m, pre ++ [m], by rw [List.length_append, List.length_singleton]; omega, by go_num, hJ3⟩
      case measure => simp [intOf]
theorem backHold_in (n : Nat) (A : Option Addr) (k c : Nat) (w : World) :
    CallsIn Fence.wide n Tryz.prog 118 #[.slice A k c] w fun e w' => e = .returned (.func (.func 160) #[] #[.pointer (some ⟨w.heap.size, 0, none⟩)]) ∧
      w' = w.alloc (.cells #[.slice A k c] 28) := by
  refine callsIn_of_wp Tryz.func118 rfl trivial ?_ rfl
  simp only [Tryz.ntmps118, List.size_toArray, List.length_cons, List.length_nil, Nat.reduceAdd, Nat.reduceSub, Array.replicate_succ, Array.replicate_zero, List.push_toArray, List.append_toArray, List.nil_append, List.cons_append]
  gi_wp2
  go_ret
  exact ⟨rfl, rfl⟩
/-- What the iterator reads: its own box, and the elements that are still to come. -/
def ReadsHold (Bs : Nat) (A : Option Addr) (c : Nat) (xs : List Hold) (k : Nat) (V : World) : Prop :=
  V.cell? ⟨Bs, 0, none⟩ = some (.slice A xs.length c) ∧ ∀ i, i + k < xs.length → ∃ g, A = some ⟨g, 0, none⟩ ∧ V.cell? ⟨g, i * 4, none⟩ = some (.int .i64 (hold xs i).order) ∧ V.cell? ⟨g, i * 4 + 1, none⟩ = some (.int .i64 (hold xs i).line) ∧
    V.cell? ⟨g, i * 4 + 2, none⟩ = some (.int .i64 (hold xs i).bin) ∧ V.cell? ⟨g, i * 4 + 3, none⟩ = some (.int .i64 (hold xs i).n)
set_option maxRecDepth 100000 in
set_option maxHeartbeats 4000000 in
theorem backHold_seq (n l Bs : Nat) (A : Option Addr) (c : Nat) (xs : List Hold) (hn : 1 ≤ n) (hlen : xs.length ≤ 1000000) (J : List Nat → World → Prop) (W : World) (hJ : ∀ pre V, J pre V → ReadsHold Bs A c xs pre.length V)
    (hY : ∀ pre x V, J pre V → (x + pre.length + 1 = xs.length) → YieldAt Fence.wide (n - 1) Tryz.prog l #[.int .i64 (x : Nat), vHold (hold xs x)] V fun e V' => e = .returned (.bool true) ∧ J (pre ++ [x]) V') (h0 : J [] W) :
    CallsIn Fence.wide n Tryz.prog 160 (#[.func (.yield l) #[] #[]] ++ #[.pointer (some ⟨Bs, 0, none⟩)]) W fun e V => (∃ v, e = .returned v) ∧ ∃ ys, ys.length = xs.length ∧ J ys V := by
  change CallsIn Fence.wide n Tryz.prog _ #[.func (.yield l) #[] #[], .pointer (some ⟨Bs, 0, none⟩)] W _
  refine callsIn_of_wp Tryz.func160 rfl trivial ?_ rfl
  simp only [Tryz.ntmps160, List.size_toArray, List.length_cons, List.length_nil, Nat.reduceAdd, Nat.reduceSub, Array.replicate_succ, Array.replicate_zero, List.push_toArray, List.append_toArray, List.nil_append, List.cons_append]
  obtain ⟨b0, _⟩ := hJ _ _ h0
  have hw0 : IntKind.i64.wrap ((xs.length : Int) - 1) = (xs.length : Int) - 1 := IntWalk.i64_in _ (by omega)
  gi_wp2
  clear b0
  gi_loopw [3] (fun i wr => ∃ (j : Nat) (pre : List Nat), j + pre.length = xs.length ∧ i = .int .i64 ((j : Int) - 1) ∧ J pre wr) (fun i _ => (intOf i + 1).toNat)
  case atStart => exact ⟨xs.length, [], rfl, rfl, h0⟩
  case round =>
    clear h0 hw0
    obtain ⟨j, pre, hj, rfl, hJr⟩ := hrel
    cases j with
    | zero =>
      have t1 : decide ((0 : Int) ≤ ((0 : Nat) : Int) - 1) = false := by simp
      gi_wp2
      go_end0
      exact ⟨⟨_, rfl⟩, pre, by omega, hJr⟩
    | succ m =>
      have e1 : ((m + 1 : Nat) : Int) - 1 = (m : Int) := by omega
      rw [e1]
      obtain ⟨b0, hrd⟩ := hJ _ _ hJr
      obtain ⟨g, rfl, q0, q1, q2, q3⟩ := hrd m (by omega)
      have hm1 : (m : Int) < (xs.length : Int) := by omega
      have hwm : IntKind.i64.wrap ((m : Int) - 1) = (m : Int) - 1 := IntWalk.i64_in _ (by omega)
      obtain ⟨fn, tmps, assign, body, hy, hR⟩ := hY pre m wr hJr (by omega)
      unfold vHold at hy
      gi_wp2
      refine hR.mono ?_
      rintro e W3 ⟨rfl, hJ3⟩
      gi_wp2
      go_roundw
      case rel => exact ⟨m, pre ++ [m], by rw [List.length_append, List.length_singleton]; omega, by go_num, hJ3⟩
      case measure => simp [intOf]
end Wh
namespace Wh
open Go Go.RowKit Go.Shelf Go.Proofs

section
variable {P : Program} {ops : Array Oper} {md : Region.Mode} {C : World → Prop} {l₀ n : Nat}
def noDefer (ops : Array Oper) : Bool := ops.all fun o => match o.op with | .defer _ => false | _ => true
theorem noDefer_at {ops : Array Oper} (h : noDefer ops = true) {i : Nat} {o : Oper} (hi : ops[i]? = some o) (c : Call) : o.op ≠ .defer c := fun e => by
  unfold noDefer at h
  rw [Array.all_eq_true] at h
  obtain ⟨hl, rfl⟩ := Array.getElem?_eq_some_iff.1 hi
  have := h i hl
  rw [e] at this
  cases this
theorem wpIn_of_quietR {o : Oper} {a : Act} {K : Act → Prop} {K' : Act → World → Prop} {Q' : Exit → Act → World → Prop} {w : World} (hnd : ∀ c, o.op ≠ .defer c) (hw : C w) (h : ∀ a w', C w' → K a → K' a w')
    (hh : o.quiet P a C K) : o.wpIn (Fence.wide.inRound l₀) n P a w K' Q' := by
  obtain ⟨v, h1, h2⟩ := hh
  have h3 := h1 w hw
  unfold Oper.quietAt at h3
  unfold Oper.wpIn
  refine ⟨fun _ _ => trivial, ?_⟩
  rw [Oper.semAt_plain _ _ _ hnd]
  generalize (execOp a.eval o).run P w = r at *
  cases r with
  | ok x w' =>
    cases x <;> simp only [Oper.quietUpon] at h3 <;> simp only [Oper.uponIn]
    case value u =>
      obtain ⟨e1, e2⟩ := h3
      rw [e1, e2]
      exact h _ _ hw h2
    case skip =>
      obtain ⟨e1, e2⟩ := h3
      rw [e1, ← e2]
      exact h _ _ hw h2
    case enter f args =>
      obtain ⟨e1, hc⟩ := h3
      rw [e1]
      exact ⟨fun hd => (by cases hd), CallsIn.inRound l₀ (callsIn_wide.2 (hc.mono fun e w'' hh => by
        obtain ⟨he, hw''⟩ := hh
        subst he
        exact h _ _ hw'' h2))⟩
  | halt x w' => simp only [Oper.quietUpon] at h3
theorem wpOpIn_of_qOpR {i : Nat} {a : Act} {K : Act → Prop} {K' : Act → World → Prop} {Q' : Exit → Act → World → Prop} {w : World} (hnd : noDefer ops = true) (hC : C w) (h : ∀ a w', C w' → K a → K' a w')
    (hh : qOp P ops C i K a) : wpOpIn (Fence.wide.inRound l₀) n P ops Q' i K' a w := by
  unfold qOp at hh
  unfold wpOpIn
  split
  · rename_i ho; simp only [ho] at hh; exact h _ _ hC hh
  · rename_i o ho
    simp only [ho] at hh
    split
    · rename_i hw; simp only [hw, if_true] at hh; exact wpIn_of_quietR (noDefer_at hnd ho) hC h hh
    · rename_i hw; simp only [hw] at hh; exact ⟨fun _ _ => trivial, h _ _ hC hh⟩
theorem wpAnyIn_of_quietR {Q : Act → Prop} {Q' : Exit → Act → World → Prop} (hnd : noDefer ops = true) (hQ : ∀ a w, C w → Q a → Q' .normal a w) : ∀ (fuel : Nat) (listed : Array Bool) (a : Act) (w : World), C w →
    wpAnyQ P md ops C Q fuel listed a → wpAnyIn (Fence.wide.inRound l₀) n P md ops Q' fuel listed a w
  | 0, _, _, _, hw, h => ⟨h.1, hQ _ _ hw h.2⟩
  | fuel + 1, _, _, _, hw, h => ⟨fun h0 => hQ _ _ hw (h.1 h0), fun i hi => wpOpIn_of_qOpR hnd hw (fun a' w' hw' => wpAnyIn_of_quietR hnd hQ fuel _ a' w' hw') (h.2 i hi)⟩
theorem wpIn_region_quietR {id : Nat} {Q : Exit → Act → World → Prop} {a : Act} {w : World} (hnd : noDefer ops = true) (hm : P.follows .mixedOrders = true) (hB : Region.lexB .any ops = true) (hC : C { w with drawn := w.drawn + 1 })
    (h : wpQuiet P ops C (fun a' => ∀ w', C w' → Q .normal a' w') ops.toList a) : (Code.region id ops true).wpIn (Fence.wide.inRound l₀) n P Q a w := by
  simp only [Region.lexB, Bool.and_eq_true] at hB
  refine wpIn_region_any hm (wpAnyIn_of_quietR (Q := fun a' => ∀ w', C w' → Q .normal a' w') hnd (fun _ w' hw' h => h w' hw') _ _ _ _ hC ?_)
  have := wpAnyQ_lex (C := C) (md := .any) hB.1 ops.toList 0 (Array.replicate ops.size false) a (by simp) (by simpa using hB.2) h
  simpa using this
theorem wpIn_region_wld {id : Nat} {Q : Exit → Act → World → Prop} {a : Act} {w : World} {l : List Oper} (hnd : noDefer l.toArray = true) (hm : P.follows .mixedOrders = true) (hB : Region.lexB .any l.toArray = true)
    (h : wpQuiet P l.toArray (fun w' => ∃ p : GB, w' = wld w p.d p.os) (fun a' => ∀ w', (∃ p : GB, w' = wld w p.d p.os) → Q .normal a' w') l a) : (Code.region id l.toArray true).wpIn (Fence.wide.inRound l₀) n P Q a w :=
  wpIn_region_quietR (C := fun w' => ∃ p : GB, w' = wld w p.d p.os) hnd hm hB ⟨⟨w.drawn + 1, #[]⟩, by simp [wld]⟩ (by simpa using h)
end

end Wh
namespace Wh
open Go Go.RowKit Go.Shelf Go.Proofs
attribute [local go_sem] run_indexAt_letter
attribute [local go_sem] Oper.semAt_some

section
variable {w w' : World} {base : Nat}
/-- Another thing than cells was written. -/
theorem Own.noncell {α : Type} {enc : α → List Value} {size : Nat} {e : TypeId} {v : Value} {l : List α} {row : Option Nat} (h : Own enc size e w base v l) (hg : w.grownBy w' row) (hr : ∀ r, row = some r → ∃ o : Obj, w.heap[r]? = some o ∧ o.isCells = false) : Own enc size e w' base v l := by
  refine h.kept hg ?_
  cases hv : v.ownBlock with
  | none => exact .inl rfl
  | some g =>
    refine .inr fun he => ?_
    obtain ⟨cur, hc⟩ := h.block hv
    obtain ⟨o, ho, hn⟩ := hr g he.symm
    rw [hc] at ho
    injection ho with ho
    subst ho
    cases hn
theorem OwnSt.noncell {V : SV} {s : State} {row : Option Nat} (h : OwnSt w base V s) (hg : w.grownBy w' row) (hr : ∀ r, row = some r → ∃ o : Obj, w.heap[r]? = some o ∧ o.isCells = false) : OwnSt w' base V s :=
  ⟨h.on.noncell hg hr, h.rlen, fun b hlt => (h.row b hlt).noncell hg hr, h.orders.noncell hg hr, h.llen, fun o ho => (h.line o ho).noncell hg hr, h.holds.noncell hg hr, h.moves.noncell hg hr, h.inn.noncell hg hr, h.out.noncell hg hr, h.fixed.noncell hg hr, h.apart, h.apartl⟩
theorem Bx.noncell {b : Nat} {t : TypeId} {rest : List Value} {V : SV} {s : State} {row : Option Nat} (h : Bx w base b t rest V s) (hg : w.grownBy w' row) (hr : ∀ r, row = some r → ∃ o : Obj, w.heap[r]? = some o ∧ o.isCells = false) : Bx w' base b t rest V s := by
  refine ⟨h.box.grown hg fun he => ?_, h.own.noncell hg hr, h.ty⟩
  obtain ⟨o, ho, hn⟩ := hr b he.symm
  have hb : w.heap[b]? = _ := h.box
  rw [hb] at ho
  injection ho with ho
  subst ho
  cases hn
end
end Wh
namespace Wh
open Go Go.RowKit Go.Shelf Go.Proofs

theorem keeps_cells {B : Nat} {W W' : World} {row : Option Nat} (hg : W.grownBy W' row) (hr : ∀ r, row = some r → ∃ cs t sp, W.heap[r]? = some (.cells cs t sp)) : KeepsFrom B W W' :=
  ⟨hg.size, fun k o _ hk hn => (hg.block k (Array.getElem?_eq_some_iff.1 hk).1 (fun e => by
    obtain ⟨cs, t, sp, hc⟩ := hr k e.symm
    rw [hc] at hk
    injection hk with hk
    subst hk
    cases hn)).trans hk⟩
theorem keeps_below {B : Nat} {W W' : World} (h : Below W.heap.size W W') : KeepsFrom B W W' := ⟨h.size, fun k _ _ hk _ => (h.block k (Array.getElem?_eq_some_iff.1 hk).1).trans hk⟩
end Wh
namespace Wh
open Go Go.RowKit Go.Shelf Go.Proofs

theorem rangeBackMove (n : Nat) (h2 : 3 ≤ n) {g : Operand} {q1 q2 s1 s2 : Nat} {assign body : Code} {Q : Exit → Act → World → Prop} {a : Act} {w : World} (Bs : Nat) (A : Option Addr) (c : Nat) (xs : List Move) (hlen : xs.length ≤ 1000000)
    (hg : a.eval g = .func (.func 158) #[] #[.pointer (some ⟨Bs, 0, none⟩)])
    (I : Nat → World → Prop) (hI : OwnFrom w.heap.size I) (h0 : I 0 w) (hR : ∀ k V, I k V → ReadsMove Bs A c xs k V) (hsz : ∀ k V, I k V → w.heap.size ≤ V.heap.size)
    (hassign : ∀ (l x : Nat) (W : World) (K : Act → World → Prop), K { tmps := (((a.tmps.setIfInBounds q1 (.int .i64 (x : Nat))).setIfInBounds q2 (vMove (moveAt xs x))).setIfInBounds s1 (.int .i64 (x : Nat))).setIfInBounds s2 (.pointer (some ⟨W.heap.size, 0, none⟩)), defers := [] } (W.alloc (.cells #[.int .i64 (moveAt xs x).good, .int .i64 (moveAt xs x).src, .int .i64 (moveAt xs x).dst, .int .i64 (moveAt xs x).n] 48)) →
      assign.wpIn (Fence.wide.inRound l) (n - 1 - 1) Tryz.prog (Exit.then K (fun _ _ _ => False)) { tmps := (a.tmps.setIfInBounds q1 (.int .i64 (x : Nat))).setIfInBounds q2 (vMove (moveAt xs x)), defers := [] } W)
    (hbody : ∀ (l k x X : Nat) (W : World), x + k + 1 = xs.length → I k W → Blk W X 48 [.int .i64 (moveAt xs x).good, .int .i64 (moveAt xs x).src, .int .i64 (moveAt xs x).dst, .int .i64 (moveAt xs x).n] → w.heap.size ≤ X →
      body.wpIn (Fence.wide.inRound l) (n - 1 - 1) Tryz.prog (Exit.then (fun _ W' => KeepsFrom w.heap.size W W' ∧ I (k + 1) W') (fun _ _ _ => False)) { tmps := (((a.tmps.setIfInBounds q1 (.int .i64 (x : Nat))).setIfInBounds q2 (vMove (moveAt xs x))).setIfInBounds s1 (.int .i64 (x : Nat))).setIfInBounds s2 (.pointer (some ⟨X, 0, none⟩)), defers := [] } W)
    (hdone : ∀ (D : Nat) (W : World), w.heap.size ≤ D → I xs.length W → W.heap[D]? = some (.deferred (some [])) → Q .normal { a with defers := { target := .collected D, args := #[] } :: a.defers } W) :
    (Code.rangeFunc g #[q1, q2] assign body).wpIn Fence.wide n Tryz.prog Q a w := by
  refine wpIn_rangeFunc_mem (F := Fence.wide) rfl (by omega) (gf := 158) (lb := #[.pointer (some ⟨Bs, 0, none⟩)]) hg trivial (enters_of Tryz.func158 (by kernel_rfl) rfl)
    (encs := fun x : Nat => #[.int .i64 (x : Nat), vMove (moveAt xs x)]) (fun _ => rfl) (fun pre W => I pre.length W) (fun s A B row hs hg hr => hI _ A B row hs hg hr) h0 (fun pre x => x + pre.length + 1 = xs.length) (fun ys => ys.length = xs.length)
    (fun l J W _ hJ _ hY hJ0 => backMove_seq (n - 1) l Bs A c xs (by omega) hlen J W (fun pre V h => hR _ _ (hJ pre V h)) hY hJ0)
    (fun x a' W => ∃ X, w.heap.size ≤ X ∧ Blk W X 48 [.int .i64 (moveAt xs x).good, .int .i64 (moveAt xs x).src, .int .i64 (moveAt xs x).dst, .int .i64 (moveAt xs x).n] ∧ a' = { tmps := (((a.tmps.setIfInBounds q1 (.int .i64 (x : Nat))).setIfInBounds q2 (vMove (moveAt xs x))).setIfInBounds s1 (.int .i64 (x : Nat))).setIfInBounds s2 (.pointer (some ⟨X, 0, none⟩)), defers := [] })
    (fun x a' _ X Y row hs hg' hr => by
      obtain ⟨B, h1, h3, h4⟩ := hs
      refine ⟨B, h1, h3.grown hg' fun e => ?_, h4⟩
      obtain ⟨o, ho, hn⟩ := (hr _ e.symm).2
      have h3' : X.heap[B]? = _ := h3
      rw [h3'] at ho
      injection ho with ho
      subst ho
      cases hn)
    (fun l pre x W K hi hK => ?_) (fun l pre x a' W _ hi hx hax => ?_) (fun D ys W hD hS hi hd => ?_)
  · have hz : Array.foldl (fun t (x : Nat × Value) => match x with | (p, v) => t.setIfInBounds p v) a.tmps (#[q1, q2].zip #[Value.int .i64 ((x : Nat) : Int), vMove (moveAt xs x)]) = (a.tmps.setIfInBounds q1 (.int .i64 (x : Nat))).setIfInBounds q2 (vMove (moveAt xs x)) := by simp
    rw [hz]
    refine hassign l x W K (hK _ _ (keeps_cells (World.grownBy_alloc W _ none) (fun r e => by cases e)) (hI.alloc _ hi) ⟨W.heap.size, hsz _ _ hi, Blk.new _ _ _, rfl⟩)
  · obtain ⟨X, hX, hb, rfl⟩ := hax
    have := hbody l pre.length x X W hx hi hb hX
    have e : (pre ++ [x]).length = pre.length + 1 := by simp
    rw [e]
    exact this
  · rw [hS] at hi
    exact hdone D W hD hi hd
theorem rangeBackHold (n : Nat) (h2 : 3 ≤ n) {g : Operand} {q1 q2 s1 s2 : Nat} {assign body : Code} {Q : Exit → Act → World → Prop} {a : Act} {w : World} (Bs : Nat) (A : Option Addr) (c : Nat) (xs : List Hold) (hlen : xs.length ≤ 1000000)
    (hg : a.eval g = .func (.func 160) #[] #[.pointer (some ⟨Bs, 0, none⟩)])
    (I : Nat → World → Prop) (hI : OwnFrom w.heap.size I) (h0 : I 0 w) (hR : ∀ k V, I k V → ReadsHold Bs A c xs k V) (hsz : ∀ k V, I k V → w.heap.size ≤ V.heap.size)
    (hassign : ∀ (l x : Nat) (W : World) (K : Act → World → Prop), K { tmps := (((a.tmps.setIfInBounds q1 (.int .i64 (x : Nat))).setIfInBounds q2 (vHold (hold xs x))).setIfInBounds s1 (.int .i64 (x : Nat))).setIfInBounds s2 (.pointer (some ⟨W.heap.size, 0, none⟩)), defers := [] } (W.alloc (.cells #[.int .i64 (hold xs x).order, .int .i64 (hold xs x).line, .int .i64 (hold xs x).bin, .int .i64 (hold xs x).n] 46)) →
      assign.wpIn (Fence.wide.inRound l) (n - 1 - 1) Tryz.prog (Exit.then K (fun _ _ _ => False)) { tmps := (a.tmps.setIfInBounds q1 (.int .i64 (x : Nat))).setIfInBounds q2 (vHold (hold xs x)), defers := [] } W)
    (hbody : ∀ (l k x X : Nat) (W : World), x + k + 1 = xs.length → I k W → Blk W X 46 [.int .i64 (hold xs x).order, .int .i64 (hold xs x).line, .int .i64 (hold xs x).bin, .int .i64 (hold xs x).n] → w.heap.size ≤ X →
      body.wpIn (Fence.wide.inRound l) (n - 1 - 1) Tryz.prog (Exit.then (fun _ W' => KeepsFrom w.heap.size W W' ∧ I (k + 1) W') (fun _ _ _ => False)) { tmps := (((a.tmps.setIfInBounds q1 (.int .i64 (x : Nat))).setIfInBounds q2 (vHold (hold xs x))).setIfInBounds s1 (.int .i64 (x : Nat))).setIfInBounds s2 (.pointer (some ⟨X, 0, none⟩)), defers := [] } W)
    (hdone : ∀ (D : Nat) (W : World), w.heap.size ≤ D → I xs.length W → W.heap[D]? = some (.deferred (some [])) → Q .normal { a with defers := { target := .collected D, args := #[] } :: a.defers } W) :
    (Code.rangeFunc g #[q1, q2] assign body).wpIn Fence.wide n Tryz.prog Q a w := by
  refine wpIn_rangeFunc_mem (F := Fence.wide) rfl (by omega) (gf := 160) (lb := #[.pointer (some ⟨Bs, 0, none⟩)]) hg trivial (enters_of Tryz.func160 (by kernel_rfl) rfl)
    (encs := fun x : Nat => #[.int .i64 (x : Nat), vHold (hold xs x)]) (fun _ => rfl) (fun pre W => I pre.length W) (fun s A B row hs hg hr => hI _ A B row hs hg hr) h0 (fun pre x => x + pre.length + 1 = xs.length) (fun ys => ys.length = xs.length)
    (fun l J W _ hJ _ hY hJ0 => backHold_seq (n - 1) l Bs A c xs (by omega) hlen J W (fun pre V h => hR _ _ (hJ pre V h)) hY hJ0)
    (fun x a' W => ∃ X, w.heap.size ≤ X ∧ Blk W X 46 [.int .i64 (hold xs x).order, .int .i64 (hold xs x).line, .int .i64 (hold xs x).bin, .int .i64 (hold xs x).n] ∧ a' = { tmps := (((a.tmps.setIfInBounds q1 (.int .i64 (x : Nat))).setIfInBounds q2 (vHold (hold xs x))).setIfInBounds s1 (.int .i64 (x : Nat))).setIfInBounds s2 (.pointer (some ⟨X, 0, none⟩)), defers := [] })
    (fun x a' _ X Y row hs hg' hr => by
      obtain ⟨B, h1, h3, h4⟩ := hs
      refine ⟨B, h1, h3.grown hg' fun e => ?_, h4⟩
      obtain ⟨o, ho, hn⟩ := (hr _ e.symm).2
      have h3' : X.heap[B]? = _ := h3
      rw [h3'] at ho
      injection ho with ho
      subst ho
      cases hn)
    (fun l pre x W K hi hK => ?_) (fun l pre x a' W _ hi hx hax => ?_) (fun D ys W hD hS hi hd => ?_)
  · have hz : Array.foldl (fun t (x : Nat × Value) => match x with | (p, v) => t.setIfInBounds p v) a.tmps (#[q1, q2].zip #[Value.int .i64 ((x : Nat) : Int), vHold (hold xs x)]) = (a.tmps.setIfInBounds q1 (.int .i64 (x : Nat))).setIfInBounds q2 (vHold (hold xs x)) := by simp
    rw [hz]
    refine hassign l x W K (hK _ _ (keeps_cells (World.grownBy_alloc W _ none) (fun r e => by cases e)) (hI.alloc _ hi) ⟨W.heap.size, hsz _ _ hi, Blk.new _ _ _, rfl⟩)
  · obtain ⟨X, hX, hb, rfl⟩ := hax
    have := hbody l pre.length x X W hx hi hb hX
    have e : (pre ++ [x]).length = pre.length + 1 := by simp
    rw [e]
    exact this
  · rw [hS] at hi
    exact hdone D W hD hi hd
end Wh
namespace Wh
open Go Go.RowKit

section
variable {P : Program} {ops : Array Oper} {md : Region.Mode} {l₀ n : Nat} {Q : Exit → Act → World → Prop}
theorem op_inRound {o : Oper} {a : Act} {w : World} {K : Act → World → Prop} (hnd : ∀ c, o.op ≠ .defer c) (h : o.wp P a w K Q) : o.wpIn (Fence.wide.inRound l₀) n P a w K Q := by
  unfold Oper.wp at h
  unfold Oper.wpIn
  refine ⟨fun _ _ => trivial, ?_⟩
  rw [Oper.semAt_plain _ _ _ hnd]
  generalize (execOp a.eval o).run P w = r at *
  cases r with
  | ok x w' =>
    cases x <;> simp only [Oper.upon] at h <;> simp only [Oper.uponIn]
    case value u => exact h
    case skip => exact h
    case defer d => exact h
    case enter f args => exact ⟨fun hd => (by cases hd), CallsIn.inRound l₀ (callsIn_wide.2 (h.mono fun e w'' hh => by cases e <;> exact hh))⟩
    case row f args => exact ⟨fun hd => (by cases hd), fun c cs _ => let ⟨v, w', r, s⟩ := h c cs; ⟨v, w', r, stepsIn_wide.2 s⟩⟩
  | halt x w' => cases x <;> simp only [Oper.upon] at h <;> simp only [Oper.uponIn] <;> exact h
theorem any_inRound (hnd : noDefer ops = true) (hQ : ¬ LetsOut Q) : ∀ (fuel : Nat) (listed : Array Bool) (a : Act) (w : World), wpAny P md ops Q fuel listed a w → wpAnyIn (Fence.wide.inRound l₀) n P md ops Q fuel listed a w
  | 0, _, _, _, h => h
  | fuel + 1, listed, a, w, h => ⟨h.1, fun i hi => by
    have h1 := h.2 i hi
    unfold wpOp at h1
    unfold wpOpIn
    split
    · rename_i ho
      simp only [ho] at h1
      exact any_inRound hnd hQ fuel _ _ _ h1
    · rename_i o ho
      simp only [ho] at h1
      split
      · rename_i hw
        simp only [hw, if_true] at h1
        rcases h1 with h1 | h1
        · exact op_inRound (noDefer_at hnd ho) (Oper.wp_mono (fun a' w' => any_inRound hnd hQ fuel _ a' w') h1)
        · exact absurd h1.2 hQ
      · rename_i hw
        simp only [hw] at h1
        exact ⟨fun _ _ => trivial, any_inRound hnd hQ fuel _ _ _ h1⟩⟩
/-- In a round, by the orders. -/
theorem wpIn_region_of_any {id : Nat} {a : Act} {w : World} (hnd : noDefer ops = true) (hQ : ¬ LetsOut Q) (hm : P.follows .mixedOrders = true) (h : wpAny P .any ops Q ops.size (Array.replicate ops.size false) a w.drew) : (Code.region id ops true).wpIn (Fence.wide.inRound l₀) n P Q a w :=
  wpIn_region_any hm (any_inRound hnd hQ _ _ _ _ h)
end
end Wh
