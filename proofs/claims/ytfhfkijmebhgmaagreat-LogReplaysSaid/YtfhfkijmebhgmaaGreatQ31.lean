/- Texts of the claim, joined: CountB, CountR, InRound, PlainU. -/
import Derived.RangeFuncCalls
import Derived.OrdersIn
import Derived.Test.YtfhfkijmebhgmaaGreatQ30
import Derived.Test.YtfhfkijmebhgmaaGreatQ01
import Derived.Test.YtfhfkijmebhgmaaGreatQ07
import Derived.Test.YtfhfkijmebhgmaaGreatQ24
import Derived.Test.YtfhfkijmebhgmaaGreatQ08
import Derived.Test.YtfhfkijmebhgmaaGreatQ29
import Derived.Test.YtfhfkijmebhgmaaGreatQ26
import Derived.Test.YtfhfkijmebhgmaaGreatQ13
import Derived.Test.YtfhfkijmebhgmaaGreatQ28
import Derived.Test.YtfhfkijmebhgmaaGreatQ16
import Derived.Test.YtfhfkijmebhgmaaGreatQ17
namespace Wh
open Go Go.RowKit Go.Shelf Go.Proofs
attribute [local go_sem] run_indexAt_letter
attribute [local go_sem] Oper.semAt_some

theorem backMove_in (n : Nat) (A : Option Addr) (k c : Nat) (w : World) :
    CallsIn Fence.wide n Tryz.prog 114 #[.slice A k c] w fun e w' => e = .returned (.func (.func 158) #[] #[.pointer (some ⟨w.heap.size, 0, none⟩)]) ∧
      w' = w.alloc (.cells #[.slice A k c] 29) := by
  refine callsIn_of_wp Tryz.func114 rfl trivial ?_ rfl
  simp only [Tryz.ntmps114, List.size_toArray, List.length_cons, List.length_nil, Nat.reduceAdd, Nat.reduceSub, Array.replicate_succ, Array.replicate_zero, List.push_toArray, List.append_toArray, List.nil_append, List.cons_append]
  gi_wp2
  go_ret
  exact ⟨rfl, rfl⟩
/-- What the iterator reads: its own box, and the elements that are still to come. -/
def ReadsMove (Bs : Nat) (A : Option Addr) (c : Nat) (xs : List Move) (k : Nat) (V : World) : Prop :=
  V.cell? ⟨Bs, 0, none⟩ = some (.slice A xs.length c) ∧ ∀ i, i + k < xs.length → ∃ g, A = some ⟨g, 0, none⟩ ∧ V.cell? ⟨g, i * 4, none⟩ = some (.int .i64 (moveAt xs i).good) ∧ V.cell? ⟨g, i * 4 + 1, none⟩ = some (.int .i64 (moveAt xs i).src) ∧
    V.cell? ⟨g, i * 4 + 2, none⟩ = some (.int .i64 (moveAt xs i).dst) ∧ V.cell? ⟨g, i * 4 + 3, none⟩ = some (.int .i64 (moveAt xs i).n)
set_option maxRecDepth 100000 in
set_option maxHeartbeats 4000000 in
theorem backMove_seq (n l Bs : Nat) (A : Option Addr) (c : Nat) (xs : List Move) (hn : 1 ≤ n) (hlen : xs.length ≤ 1000000) (J : List Nat → World → Prop) (W : World) (hJ : ∀ pre V, J pre V → ReadsMove Bs A c xs pre.length V)
    (hY : ∀ pre x V, J pre V → (x + pre.length + 1 = xs.length) → YieldAt Fence.wide (n - 1) Tryz.prog l #[.int .i64 (x : Nat), vMove (moveAt xs x)] V fun e V' => e = .returned (.bool true) ∧ J (pre ++ [x]) V') (h0 : J [] W) :
    CallsIn Fence.wide n Tryz.prog 158 (#[.func (.yield l) #[] #[]] ++ #[.pointer (some ⟨Bs, 0, none⟩)]) W fun e V => (∃ v, e = .returned v) ∧ ∃ ys, ys.length = xs.length ∧ J ys V := by
  change CallsIn Fence.wide n Tryz.prog _ #[.func (.yield l) #[] #[], .pointer (some ⟨Bs, 0, none⟩)] W _
  refine callsIn_of_wp Tryz.func158 rfl trivial ?_ rfl
  simp only [Tryz.ntmps158, List.size_toArray, List.length_cons, List.length_nil, Nat.reduceAdd, Nat.reduceSub, Array.replicate_succ, Array.replicate_zero, List.push_toArray, List.append_toArray, List.nil_append, List.cons_append]
  obtain ⟨b0, _⟩ := hJ _ _ h0
  have hw0 : IntKind.i64.wrap ((xs.length : Int) - 1) = (xs.length : Int) - 1 := IntWalk.i64_in _ (by omega)
  gi_wp2
  clear b0
  gi_loopw [3] (fun i wr => ∃ (j : Nat) (pre : List Nat), j + pre.length = xs.length ∧ i = .int .i64 ((j : Int) - 1) ∧ J pre wr) (fun i _ => (intOf i + 1).toNat)
  case atStart => exact ⟨xs.length, [], rfl, rfl, h0⟩
  case round =>
    clear h0 hw0
    obtain ⟨j, pre, hj, rfl, hJr⟩ := hrel
    cases j with
    | zero =>
      have t1 : decide ((0 : Int) ≤ ((0 : Nat) : Int) - 1) = false := by simp
      gi_wp2
      go_end0
      exact ⟨⟨_, rfl⟩, pre, by omega, hJr⟩
    | succ m =>
      have e1 : ((m + 1 : Nat) : Int) - 1 = (m : Int) := by omega
      rw [e1]
      obtain ⟨b0, hrd⟩ := hJ _ _ hJr
      obtain ⟨g, rfl, q0, q1, q2, q3⟩ := hrd m (by omega)
      have hm1 : (m : Int) < (xs.length : Int) := by omega
      have hwm : IntKind.i64.wrap ((m : Int) - 1) = (m : Int) - 1 := IntWalk.i64_in _ (by omega)
      obtain ⟨fn, tmps, assign, body, hy, hR⟩ := hY pre m wr hJr (by omega)
      unfold vMove at hy
      gi_wp2
      refine hR.mono ?_
      rintro e W3 ⟨rfl, hJ3⟩
      gi_wp2
      go_roundw
      case rel => exact ⟨m, pre ++ [m], by rw [List.length_append, List.length_singleton]; omega, by go_num, hJ3⟩
      case measure => simp [intOf]
theorem backHold_in (n : Nat) (A : Option Addr) (k c : Nat) (w : World) :
    CallsIn Fence.wide n Tryz.prog 118 #[.slice A k c] w fun e w' => e = .returned (.func (.func 160) #[] #[.pointer (some ⟨w.heap.size, 0, none⟩)]) ∧
      w' = w.alloc (.cells #[.slice A k c] 28) := by
  refine callsIn_of_wp Tryz.func118 rfl trivial ?_ rfl
  simp only [Tryz.ntmps118, List.size_toArray, List.length_cons, List.length_nil, Nat.reduceAdd, Nat.reduceSub, Array.replicate_succ, Array.replicate_zero, List.push_toArray, List.append_toArray, List.nil_append, List.cons_append]
  gi_wp2
  go_ret
  exact ⟨rfl, rfl⟩
/-- What the iterator reads: its own box, and the elements that are still to come. -/
def ReadsHold (Bs : Nat) (A : Option Addr) (c : Nat) (xs : List Hold) (k : Nat) (V : World) : Prop :=
  V.cell? ⟨Bs, 0, none⟩ = some (.slice A xs.length c) ∧ ∀ i, i + k < xs.length → ∃ g, A = some ⟨g, 0, none⟩ ∧ V.cell? ⟨g, i * 4, none⟩ = some (.int .i64 (hold xs i).order) ∧ V.cell? ⟨g, i * 4 + 1, none⟩ = some (.int .i64 (hold xs i).line) ∧
    V.cell? ⟨g, i * 4 + 2, none⟩ = some (.int .i64 (hold xs i).bin) ∧ V.cell? ⟨g, i * 4 + 3, none⟩ = some (.int .i64 (hold xs i).n)
set_option maxRecDepth 100000 in
set_option maxHeartbeats 4000000 in
theorem backHold_seq (n l Bs : Nat) (A : Option Addr) (c : Nat) (xs : List Hold) (hn : 1 ≤ n) (hlen : xs.length ≤ 1000000) (J : List Nat → World → Prop) (W : World) (hJ : ∀ pre V, J pre V → ReadsHold Bs A c xs pre.length V)
    (hY : ∀ pre x V, J pre V → (x + pre.length + 1 = xs.length) → YieldAt Fence.wide (n - 1) Tryz.prog l #[.int .i64 (x : Nat), vHold (hold xs x)] V fun e V' => e = .returned (.bool true) ∧ J (pre ++ [x]) V') (h0 : J [] W) :
    CallsIn Fence.wide n Tryz.prog 160 (#[.func (.yield l) #[] #[]] ++ #[.pointer (some ⟨Bs, 0, none⟩)]) W fun e V => (∃ v, e = .returned v) ∧ ∃ ys, ys.length = xs.length ∧ J ys V := by
  change CallsIn Fence.wide n Tryz.prog _ #[.func (.yield l) #[] #[], .pointer (some ⟨Bs, 0, none⟩)] W _
  refine callsIn_of_wp Tryz.func160 rfl trivial ?_ rfl
  simp only [Tryz.ntmps160, List.size_toArray, List.length_cons, List.length_nil, Nat.reduceAdd, Nat.reduceSub, Array.replicate_succ, Array.replicate_zero, List.push_toArray, List.append_toArray, List.nil_append, List.cons_append]
  obtain ⟨b0, _⟩ := hJ _ _ h0
  have hw0 : IntKind.i64.wrap ((xs.length : Int) - 1) = (xs.length : Int) - 1 := IntWalk.i64_in _ (by omega)
  gi_wp2
  clear b0
  gi_loopw [3] (fun i wr => ∃ (j : Nat) (pre : List Nat), j + pre.length = xs.length ∧ i = .int .i64 ((j : Int) - 1) ∧ J pre wr) (fun i _ => (intOf i + 1).toNat)
  case atStart => exact ⟨xs.length, [], rfl, rfl, h0⟩
  case round =>
    clear h0 hw0
    obtain ⟨j, pre, hj, rfl, hJr⟩ := hrel
    cases j with
    | zero =>
      have t1 : decide ((0 : Int) ≤ ((0 : Nat) : Int) - 1) = false := by simp
      gi_wp2
      go_end0
      exact ⟨⟨_, rfl⟩, pre, by omega, hJr⟩
    | succ m =>
      have e1 : ((m + 1 : Nat) : Int) - 1 = (m : Int) := by omega
      rw [e1]
      obtain ⟨b0, hrd⟩ := hJ _ _ hJr
      obtain ⟨g, rfl, q0, q1, q2, q3⟩ := hrd m (by omega)
      have hm1 : (m : Int) < (xs.length : Int) := by omega
      have hwm : IntKind.i64.wrap ((m : Int) - 1) = (m : Int) - 1 := IntWalk.i64_in _ (by omega)
      obtain ⟨fn, tmps, assign, body, hy, hR⟩ := hY pre m wr hJr (by omega)
      unfold vHold at hy
      gi_wp2
      refine hR.mono ?_
      rintro e W3 ⟨rfl, hJ3⟩
      gi_wp2
      go_roundw
      case rel => exact ⟨m, pre ++ [m], by rw [List.length_append, List.length_singleton]; omega, by go_num, hJ3⟩
      case measure => simp [intOf]
end Wh
namespace Wh
open Go Go.RowKit Go.Shelf Go.Proofs

theorem rangeBackMove (n : Nat) (h2 : 3 ≤ n) {g : Operand} {q1 q2 s1 s2 : Nat} {assign body : Code} {Q : Exit → Act → World → Prop} {a : Act} {w : World} (Bs : Nat) (A : Option Addr) (c : Nat) (xs : List Move) (hlen : xs.length ≤ 1000000)
    (hg : a.eval g = .func (.func 158) #[] #[.pointer (some ⟨Bs, 0, none⟩)])
    (I : Nat → World → Prop) (hI : OwnFrom w.heap.size I) (h0 : I 0 w) (hR : ∀ k V, I k V → ReadsMove Bs A c xs k V) (hsz : ∀ k V, I k V → w.heap.size ≤ V.heap.size)
    (hassign : ∀ (l x : Nat) (W : World) (K : Act → World → Prop), K { tmps := (((a.tmps.setIfInBounds q1 (.int .i64 (x : Nat))).setIfInBounds q2 (vMove (moveAt xs x))).setIfInBounds s1 (.int .i64 (x : Nat))).setIfInBounds s2 (.pointer (some ⟨W.heap.size, 0, none⟩)), defers := [] } (W.alloc (.cells #[.int .i64 (moveAt xs x).good, .int .i64 (moveAt xs x).src, .int .i64 (moveAt xs x).dst, .int .i64 (moveAt xs x).n] 48)) →
      assign.wpIn (Fence.wide.inRound l) (n - 1 - 1) Tryz.prog (Exit.then K (fun _ _ _ => False)) { tmps := (a.tmps.setIfInBounds q1 (.int .i64 (x : Nat))).setIfInBounds q2 (vMove (moveAt xs x)), defers := [] } W)
    (hbody : ∀ (l k x X : Nat) (W : World), x + k + 1 = xs.length → I k W → Blk W X 48 [.int .i64 (moveAt xs x).good, .int .i64 (moveAt xs x).src, .int .i64 (moveAt xs x).dst, .int .i64 (moveAt xs x).n] → w.heap.size ≤ X →
      body.wpIn (Fence.wide.inRound l) (n - 1 - 1) Tryz.prog (Exit.then (fun _ W' => KeepsFrom w.heap.size W W' ∧ I (k + 1) W') (fun _ _ _ => False)) { tmps := (((a.tmps.setIfInBounds q1 (.int .i64 (x : Nat))).setIfInBounds q2 (vMove (moveAt xs x))).setIfInBounds s1 (.int .i64 (x : Nat))).setIfInBounds s2 (.pointer (some ⟨X, 0, none⟩)), defers := [] } W)
    (hdone : ∀ (D : Nat) (W : World), w.heap.size ≤ D → I xs.length W → W.heap[D]? = some (.deferred (some [])) → Q .normal { a with defers := { target := .collected D, args := #[] } :: a.defers } W) :
    (Code.rangeFunc g #[q1, q2] assign body).wpIn Fence.wide n Tryz.prog Q a w := by
  refine wpIn_rangeFunc_mem (F := Fence.wide) rfl (by omega) (gf := 158) (lb := #[.pointer (some ⟨Bs, 0, none⟩)]) hg trivial (enters_of Tryz.func158 (by kernel_rfl) rfl)
    (encs := fun x : Nat => #[.int .i64 (x : Nat), vMove (moveAt xs x)]) (fun _ => rfl) (fun pre W => I pre.length W) (fun s A B row hs hg hr => hI _ A B row hs hg hr) h0 (fun pre x => x + pre.length + 1 = xs.length) (fun ys => ys.length = xs.length)
    (fun l J W _ hJ _ hY hJ0 => backMove_seq (n - 1) l Bs A c xs (by omega) hlen J W (fun pre V h => hR _ _ (hJ pre V h)) hY hJ0)
    (fun x a' W => ∃ X, w.heap.size ≤ X ∧ Blk W X 48 [.int .i64 (moveAt xs x).good, .int .i64 (moveAt xs x).src, .int .i64 (moveAt xs x).dst, .int .i64 (moveAt xs x).n] ∧ a' = { tmps := (((a.tmps.setIfInBounds q1 (.int .i64 (x : Nat))).setIfInBounds q2 (vMove (moveAt xs x))).setIfInBounds s1 (.int .i64 (x : Nat))).setIfInBounds s2 (.pointer (some ⟨X, 0, none⟩)), defers := [] })
    (fun x a' _ X Y row hs hg' hr => by
      obtain ⟨B, h1, h3, h4⟩ := hs
      refine ⟨B, h1, h3.grown hg' fun e => ?_, h4⟩
      obtain ⟨o, ho, hn⟩ := (hr _ e.symm).2
      have h3' : X.heap[B]? = _ := h3
      rw [h3'] at ho
      injection ho with ho
      subst ho
      cases hn)
    (fun l pre x W K hi hK => ?_) (fun l pre x a' W _ hi hx hax => ?_) (fun D ys W hD hS hi hd => ?_)
  · have hz : Array.foldl (fun t (x : Nat × Value) => match x with | (p, v) => t.setIfInBounds p v) a.tmps (#[q1, q2].zip #[Value.int .i64 ((x : Nat) : Int), vMove (moveAt xs x)]) = (a.tmps.setIfInBounds q1 (.int .i64 (x : Nat))).setIfInBounds q2 (vMove (moveAt xs x)) := by simp
    rw [hz]
    refine hassign l x W K (hK _ _ (keeps_cells (World.grownBy_alloc W _ none) (fun r e => by cases e)) (hI.alloc _ hi) ⟨W.heap.size, hsz _ _ hi, Blk.new _ _ _, rfl⟩)
  · obtain ⟨X, hX, hb, rfl⟩ := hax
    have := hbody l pre.length x X W hx hi hb hX
    have e : (pre ++ [x]).length = pre.length + 1 := by simp
    rw [e]
    exact this
  · rw [hS] at hi
    exact hdone D W hD hi hd
theorem rangeBackHold (n : Nat) (h2 : 3 ≤ n) {g : Operand} {q1 q2 s1 s2 : Nat} {assign body : Code} {Q : Exit → Act → World → Prop} {a : Act} {w : World} (Bs : Nat) (A : Option Addr) (c : Nat) (xs : List Hold) (hlen : xs.length ≤ 1000000)
    (hg : a.eval g = .func (.func 160) #[] #[.pointer (some ⟨Bs, 0, none⟩)])
    (I : Nat → World → Prop) (hI : OwnFrom w.heap.size I) (h0 : I 0 w) (hR : ∀ k V, I k V → ReadsHold Bs A c xs k V) (hsz : ∀ k V, I k V → w.heap.size ≤ V.heap.size)
    (hassign : ∀ (l x : Nat) (W : World) (K : Act → World → Prop), K { tmps := (((a.tmps.setIfInBounds q1 (.int .i64 (x : Nat))).setIfInBounds q2 (vHold (hold xs x))).setIfInBounds s1 (.int .i64 (x : Nat))).setIfInBounds s2 (.pointer (some ⟨W.heap.size, 0, none⟩)), defers := [] } (W.alloc (.cells #[.int .i64 (hold xs x).order, .int .i64 (hold xs x).line, .int .i64 (hold xs x).bin, .int .i64 (hold xs x).n] 46)) →
      assign.wpIn (Fence.wide.inRound l) (n - 1 - 1) Tryz.prog (Exit.then K (fun _ _ _ => False)) { tmps := (a.tmps.setIfInBounds q1 (.int .i64 (x : Nat))).setIfInBounds q2 (vHold (hold xs x)), defers := [] } W)
    (hbody : ∀ (l k x X : Nat) (W : World), x + k + 1 = xs.length → I k W → Blk W X 46 [.int .i64 (hold xs x).order, .int .i64 (hold xs x).line, .int .i64 (hold xs x).bin, .int .i64 (hold xs x).n] → w.heap.size ≤ X →
      body.wpIn (Fence.wide.inRound l) (n - 1 - 1) Tryz.prog (Exit.then (fun _ W' => KeepsFrom w.heap.size W W' ∧ I (k + 1) W') (fun _ _ _ => False)) { tmps := (((a.tmps.setIfInBounds q1 (.int .i64 (x : Nat))).setIfInBounds q2 (vHold (hold xs x))).setIfInBounds s1 (.int .i64 (x : Nat))).setIfInBounds s2 (.pointer (some ⟨X, 0, none⟩)), defers := [] } W)
    (hdone : ∀ (D : Nat) (W : World), w.heap.size ≤ D → I xs.length W → W.heap[D]? = some (.deferred (some [])) → Q .normal { a with defers := { target := .collected D, args := #[] } :: a.defers } W) :
    (Code.rangeFunc g #[q1, q2] assign body).wpIn Fence.wide n Tryz.prog Q a w := by
  refine wpIn_rangeFunc_mem (F := Fence.wide) rfl (by omega) (gf := 160) (lb := #[.pointer (some ⟨Bs, 0, none⟩)]) hg trivial (enters_of Tryz.func160 (by kernel_rfl) rfl)
    (encs := fun x : Nat => #[.int .i64 (x : Nat), vHold (hold xs x)]) (fun _ => rfl) (fun pre W => I pre.length W) (fun s A B row hs hg hr => hI _ A B row hs hg hr) h0 (fun pre x => x + pre.length + 1 = xs.length) (fun ys => ys.length = xs.length)
    (fun l J W _ hJ _ hY hJ0 => backHold_seq (n - 1) l Bs A c xs (by omega) hlen J W (fun pre V h => hR _ _ (hJ pre V h)) hY hJ0)
    (fun x a' W => ∃ X, w.heap.size ≤ X ∧ Blk W X 46 [.int .i64 (hold xs x).order, .int .i64 (hold xs x).line, .int .i64 (hold xs x).bin, .int .i64 (hold xs x).n] ∧ a' = { tmps := (((a.tmps.setIfInBounds q1 (.int .i64 (x : Nat))).setIfInBounds q2 (vHold (hold xs x))).setIfInBounds s1 (.int .i64 (x : Nat))).setIfInBounds s2 (.pointer (some ⟨X, 0, none⟩)), defers := [] })
    (fun x a' _ X Y row hs hg' hr => by
      obtain ⟨B, h1, h3, h4⟩ := hs
      refine ⟨B, h1, h3.grown hg' fun e => ?_, h4⟩
      obtain ⟨o, ho, hn⟩ := (hr _ e.symm).2
      have h3' : X.heap[B]? = _ := h3
      rw [h3'] at ho
      injection ho with ho
      subst ho
      cases hn)
    (fun l pre x W K hi hK => ?_) (fun l pre x a' W _ hi hx hax => ?_) (fun D ys W hD hS hi hd => ?_)
  · have hz : Array.foldl (fun t (x : Nat × Value) => match x with | (p, v) => t.setIfInBounds p v) a.tmps (#[q1, q2].zip #[Value.int .i64 ((x : Nat) : Int), vHold (hold xs x)]) = (a.tmps.setIfInBounds q1 (.int .i64 (x : Nat))).setIfInBounds q2 (vHold (hold xs x)) := by simp
    rw [hz]
    refine hassign l x W K (hK _ _ (keeps_cells (World.grownBy_alloc W _ none) (fun r e => by cases e)) (hI.alloc _ hi) ⟨W.heap.size, hsz _ _ hi, Blk.new _ _ _, rfl⟩)
  · obtain ⟨X, hX, hb, rfl⟩ := hax
    have := hbody l pre.length x X W hx hi hb hX
    have e : (pre ++ [x]).length = pre.length + 1 := by simp
    rw [e]
    exact this
  · rw [hS] at hi
    exact hdone D W hD hi hd
end Wh
namespace Wh
open Go Go.RowKit

section
variable {P : Program} {ops : Array Oper} {md : Region.Mode} {l₀ n : Nat} {Q : Exit → Act → World → Prop}
theorem op_inRound {o : Oper} {a : Act} {w : World} {K : Act → World → Prop} (hnd : ∀ c, o.op ≠ .defer c) (h : o.wp P a w K Q) : o.wpIn (Fence.wide.inRound l₀) n P a w K Q := by
  unfold Oper.wp at h
  unfold Oper.wpIn
  refine ⟨fun _ _ => trivial, ?_⟩
  rw [Oper.semAt_plain _ _ _ hnd]
  generalize (execOp a.eval o).run P w = r at *
  cases r with
  | ok x w' =>
    cases x <;> simp only [Oper.upon] at h <;> simp only [Oper.uponIn]
    case value u => exact h
    case skip => exact h
    case defer d => exact h
    case enter f args => exact ⟨fun hd => (by cases hd), CallsIn.inRound l₀ (callsIn_wide.2 (h.mono fun e w'' hh => by cases e <;> exact hh))⟩
    case row f args => exact ⟨fun hd => (by cases hd), fun c cs _ => let ⟨v, w', r, s⟩ := h c cs; ⟨v, w', r, stepsIn_wide.2 s⟩⟩
  | halt x w' => cases x <;> simp only [Oper.upon] at h <;> simp only [Oper.uponIn] <;> exact h
theorem any_inRound (hnd : noDefer ops = true) (hQ : ¬ LetsOut Q) : ∀ (fuel : Nat) (listed : Array Bool) (a : Act) (w : World), wpAny P md ops Q fuel listed a w → wpAnyIn (Fence.wide.inRound l₀) n P md ops Q fuel listed a w
  | 0, _, _, _, h => h
  | fuel + 1, listed, a, w, h => ⟨h.1, fun i hi => by
    have h1 := h.2 i hi
    unfold wpOp at h1
    unfold wpOpIn
    split
    · rename_i ho
      simp only [ho] at h1
      exact any_inRound hnd hQ fuel _ _ _ h1
    · rename_i o ho
      simp only [ho] at h1
      split
      · rename_i hw
        simp only [hw, if_true] at h1
        rcases h1 with h1 | h1
        · exact op_inRound (noDefer_at hnd ho) (Oper.wp_mono (fun a' w' => any_inRound hnd hQ fuel _ a' w') h1)
        · exact absurd h1.2 hQ
      · rename_i hw
        simp only [hw] at h1
        exact ⟨fun _ _ => trivial, any_inRound hnd hQ fuel _ _ _ h1⟩⟩
/-- In a round, by the orders. -/
theorem wpIn_region_of_any {id : Nat} {a : Act} {w : World} (hnd : noDefer ops = true) (hQ : ¬ LetsOut Q) (hm : P.follows .mixedOrders = true) (h : wpAny P .any ops Q ops.size (Array.replicate ops.size false) a w.drew) : (Code.region id ops true).wpIn (Fence.wide.inRound l₀) n P Q a w :=
  wpIn_region_any hm (any_inRound hnd hQ _ _ _ _ h)
end
end Wh
namespace Wh
namespace Cutter
variable {α : Type} (C : Cutter α)
/-- What lies there, and what is over, when all from place j on has been cut. -/
def mid (l : List α) (v : Int) (j : Nat) : List α × Int := (l.take j ++ (C.cut (l.drop j) v).1, (C.cut (l.drop j) v).2)
variable {C}
theorem mid_top (l : List α) (v : Int) : C.mid l v l.length = (l, v) := by
  unfold mid
  rw [List.drop_length, List.take_length]
  show (l ++ [], v) = _
  rw [List.append_nil]
theorem mid_zero (l : List α) (v : Int) : C.mid l v 0 = C.cut l v := rfl
theorem mid_len (l : List α) (v : Int) (j : Nat) : (C.mid l v j).1.length = l.length := by
  unfold mid
  rw [List.length_append, cut_length, List.length_take, List.length_drop]
  omega
theorem mid_at {l : List α} (v : Int) {i j : Nat} (hi : i < l.length) (hij : i < j) : (C.mid l v j).1[i]? = some l[i] := by
  unfold mid
  rw [List.getElem?_append_left (by rw [List.length_take]; omega), List.getElem?_take_of_lt hij, List.getElem?_eq_getElem hi]
theorem mid_not {l : List α} (v : Int) {j : Nat} (hj : j < l.length) (h : C.is l[j] = false) : C.mid l v j = C.mid l v (j + 1) := by
  unfold mid
  rw [List.drop_eq_getElem_cons hj, cut_not h, List.take_succ_eq_append_getElem hj, List.append_assoc]
  rfl
theorem mid_is {l : List α} (v : Int) {j : Nat} (hj : j < l.length) (h : C.is l[j] = true) :
    C.mid l v j = ((C.mid l v (j + 1)).1.set j (C.put l[j] (C.num l[j] - less (C.mid l v (j + 1)).2 (C.num l[j]))), (C.mid l v (j + 1)).2 - less (C.mid l v (j + 1)).2 (C.num l[j])) := by
  unfold mid
  rw [List.drop_eq_getElem_cons hj, cut_is h, List.take_succ_eq_append_getElem hj, List.append_assoc]
  have hl : (List.take j l).length ≤ j := by rw [List.length_take]; omega
  have e : j - (List.take j l).length = 0 := by rw [List.length_take]; omega
  rw [List.set_append_right _ _ hl, e]
  rfl
theorem mid_map {β : Type} (f : α → β) (hf : ∀ x n, f (C.put x n) = f x) (l : List α) (v : Int) (j : Nat) : (C.mid l v j).1.map f = l.map f := by
  unfold mid
  rw [List.map_append, cut_map f hf, ← List.map_append, List.take_append_drop]
theorem mid_over {l : List α} (h : ∀ x ∈ l, 0 ≤ C.num x) (v : Int) (j : Nat) : min v 0 ≤ (C.mid l v j).2 ∧ (C.mid l v j).2 ≤ v := by
  have hd : ∀ x ∈ l.drop j, 0 ≤ C.num x := fun x hx => h x (List.mem_of_mem_drop hx)
  have := cut_over hd v
  have h2 := all_nonneg hd
  unfold mid
  simp only
  omega
end Cutter

def hkey (h : Hold) : Int × Int × Int := (h.order, h.line, h.bin)
theorem keptAt_cons' (x : Hold) (r : List Hold) (o k b : Int) : keptAt (x :: r) o k b = if x.order = o ∧ x.line = k ∧ x.bin = b then x.n else keptAt r o k b := by
  unfold keptAt
  rw [List.find?_cons]
  by_cases h : x.order = o ∧ x.line = k ∧ x.bin = b
  · have e : sameKey o k b x = true := by unfold sameKey; simp [h.1, h.2.1, h.2.2]
    rw [e, if_pos h]
  · have e : sameKey o k b x = false := by
      unfold sameKey
      by_cases h1 : x.order = o <;> by_cases h2 : x.line = k <;> by_cases h3 : x.bin = b <;> simp [h1, h2, h3]
      exact h ⟨h1, h2, h3⟩
    rw [e, if_neg h]
theorem keptAt_at : ∀ {l : List Hold}, (l.map hkey).Nodup → ∀ {i : Nat} (hi : i < l.length), keptAt l l[i].order l[i].line l[i].bin = l[i].n
  | [], _, i, hi => by simp at hi
  | x :: r, hn, 0, _ => by rw [keptAt_cons']; simp
  | x :: r, hn, i + 1, hi => by
    rw [List.map_cons, List.nodup_cons] at hn
    have hi' : i < r.length := by simpa using hi
    rw [keptAt_cons', if_neg]
    · exact keptAt_at hn.2 hi'
    · rintro ⟨h1, h2, h3⟩
      refine hn.1 (List.mem_map.2 ⟨r[i], List.getElem_mem hi', ?_⟩)
      unfold hkey
      simp only [List.getElem_cons_succ] at h1 h2 h3
      rw [h1, h2, h3]
theorem keptAt_not {l : List Hold} {o k b : Int} (h : ∀ x ∈ l, ¬ (x.order = o ∧ x.line = k ∧ x.bin = b)) : keptAt l o k b = 0 := by
  induction l with
  | nil => rfl
  | cons x r ih => rw [keptAt_cons', if_neg (h x (List.mem_cons_self ..)), ih fun y hy => h y (List.mem_cons_of_mem _ hy)]
theorem keptAt_keep {l : List Hold} (hn : (l.map hkey).Nodup) (o k b : Int) : keptAt (l.filter fun h => !decide (h.n = 0)) o k b = keptAt l o k b := by
  induction l with
  | nil => rfl
  | cons x r ih =>
    rw [List.map_cons, List.nodup_cons] at hn
    rw [List.filter_cons, keptAt_cons']
    by_cases h0 : x.n = 0
    · rw [if_neg (by simp [h0]), ih hn.2]
      split
      · rename_i h
        rw [h0]
        refine keptAt_not fun y hy hh => hn.1 (List.mem_map.2 ⟨y, hy, ?_⟩)
        unfold hkey
        rw [hh.1, hh.2.1, hh.2.2, h.1, h.2.1, h.2.2]
      · rfl
    · rw [if_pos (by simp [h0]), keptAt_cons', ih hn.2]
theorem map_set_key {l : List Hold} {j : Nat} (hj : j < l.length) (y : Int) : (l.set j { l[j] with n := y }).map hkey = l.map hkey := by
  rw [List.map_set]
  apply List.ext_getElem?
  intro i
  rw [List.getElem?_set]
  split
  · rename_i h
    subst h
    rw [if_pos (by simpa using hj), List.getElem?_map, List.getElem?_eq_getElem hj]
    rfl
  · rfl
theorem keptAt_set {l : List Hold} (hn : (l.map hkey).Nodup) {j : Nat} (hj : j < l.length) (y : Int) (o k b : Int) :
    keptAt (l.set j { l[j] with n := y }) o k b = if l[j].order = o ∧ l[j].line = k ∧ l[j].bin = b then y else keptAt l o k b := by
  have hn' : ((l.set j { l[j] with n := y }).map hkey).Nodup := by rw [map_set_key hj]; exact hn
  have hlen : (l.set j { l[j] with n := y }).length = l.length := List.length_set ..
  split
  · rename_i h
    have := keptAt_at hn' (i := j) (by omega)
    rw [List.getElem_set_self] at this
    rw [← h.1, ← h.2.1, ← h.2.2]
    exact this
  · rename_i h
    by_cases hx : ∃ i, ∃ hi : i < l.length, l[i].order = o ∧ l[i].line = k ∧ l[i].bin = b
    · obtain ⟨i, hi, h1, h2, h3⟩ := hx
      have hij : j ≠ i := fun e => by subst e; exact h ⟨h1, h2, h3⟩
      have e1 := keptAt_at hn hi
      have e2 := keptAt_at hn' (i := i) (by omega)
      rw [List.getElem_set_ne hij] at e2
      rw [h1, h2, h3] at e1 e2
      rw [e1, e2]
    · have hnot : ∀ x ∈ l, ¬ (x.order = o ∧ x.line = k ∧ x.bin = b) := fun x hx' hh => by
        obtain ⟨i, hi, rfl⟩ := List.getElem_of_mem hx'
        exact hx ⟨i, hi, hh⟩
      rw [keptAt_not hnot, keptAt_not]
      intro x hx' hh
      obtain ⟨i, hi, rfl⟩ := List.getElem_of_mem hx'
      by_cases hij : j = i
      · subst hij
        rw [List.getElem_set_self] at hh
        exact h hh
      · rw [List.getElem_set_ne hij] at hh
        exact hx ⟨i, by omega, hh⟩
theorem ok_nodup {l : List Hold} (h : holdsOk l = true) : (l.map hkey).Nodup := by
  have h2 := (holdsOk_iff.1 h).2
  rw [List.Nodup, List.pairwise_map]
  refine List.Pairwise.imp (fun {a b} hlt he => ?_) h2
  unfold hkey at he
  simp only [Prod.mk.injEq] at he
  unfold place at hlt
  rw [he.1, he.2.1, he.2.2] at hlt
  omega

/-- The state while the holds are cut: what went from a bin is a line's to have again. -/
def hdO (s : State) (b : Int) (l : List Hold) : List Order :=
  s.orders.mapIdx fun o x => { x with lines := x.lines.mapIdx fun k y => { y with back := y.back + (keptAt s.holds o k b - keptAt l o k b) } }
def hdS (s : State) (b : Int) (l : List Hold) : State := { s with holds := l, orders := hdO s b l }
section
variable {s : State} {b : Int} {l : List Hold}
theorem hdO_get (o : Nat) : (hdO s b l)[o]? = s.orders[o]?.map fun x => { x with lines := x.lines.mapIdx fun k y => { y with back := y.back + (keptAt s.holds o k b - keptAt l o k b) } } := by
  unfold hdO
  rw [List.getElem?_mapIdx]
theorem hdO_len : (hdO s b l).length = s.orders.length := by simp [hdO]
theorem hdS_order {o : Nat} (ho : o < s.orders.length) : (hdS s b l).order o = { s.order o with lines := (s.order o).lines.mapIdx fun k y => { y with back := y.back + (keptAt s.holds o k b - keptAt l o k b) } } := by
  unfold State.order orderAt hdS
  simp only [List.getD_eq_getElem?_getD, hdO_get, List.getElem?_eq_getElem ho]
  rfl
theorem hdS_lines {o : Nat} (ho : o < s.orders.length) : ((hdS s b l).order o).lines.length = (s.order o).lines.length := by rw [hdS_order ho]; simp
theorem hdS_line {o k : Nat} (ho : o < s.orders.length) (hk : k < (s.order o).lines.length) : (hdS s b l).line o k = { s.line o k with back := (s.line o k).back + (keptAt s.holds o k b - keptAt l o k b) } := by
  unfold State.line
  rw [hdS_order ho, lineAt_eq (by simpa using hk), lineAt_eq hk]
  simp
theorem hdO_congr {l' : List Hold} (h : ∀ o k : Nat, keptAt l' o k b = keptAt l o k b) : hdO s b l' = hdO s b l := by
  unfold hdO
  simp only [h]
theorem hdO_self : hdO s b s.holds = s.orders := by
  have e : ∀ x : List Line, (x.mapIdx fun _ y => y) = x := fun x => by
    apply List.ext_getElem?
    intro i
    simp
  have e2 : ∀ x : List Order, (x.mapIdx fun _ y => y) = x := fun x => by
    apply List.ext_getElem?
    intro i
    simp
  unfold hdO
  simp only [Int.sub_self, Int.add_zero, e, e2]
theorem hdS_self : hdS s b s.holds = s := by unfold hdS; rw [hdO_self]
/-- A hold has m fewer, and its line m more to have. -/
theorem hdS_step (hn : (l.map hkey).Nodup) {j : Nat} (hj : j < l.length) {o k : Nat} {m : Int} (h1 : l[j].order = o) (h2 : l[j].line = k) (h3 : l[j].bin = b) (ho : o < s.orders.length) (hk : k < (s.order o).lines.length) :
    hdS s b (l.set j { l[j] with n := l[j].n - m }) = ({ hdS s b l with holds := l.set j { l[j] with n := l[j].n - m } } : State).setLine o k { (hdS s b l).line o k with back := ((hdS s b l).line o k).back + m } := by
  have hka := keptAt_at hn hj
  rw [h1, h2, h3] at hka
  have hkey : ∀ o' k' : Nat, keptAt (l.set j { l[j] with n := l[j].n - m }) o' k' b = keptAt l o' k' b - (if o' = o ∧ k' = k then m else 0) := fun o' k' => by
    rw [keptAt_set hn hj, h1, h2, h3]
    by_cases h : o' = o ∧ k' = k
    · obtain ⟨rfl, rfl⟩ := h
      rw [if_pos ⟨rfl, rfl, rfl⟩, if_pos ⟨rfl, rfl⟩, hka]
    · rw [if_neg (fun hh => h ⟨by omega, by omega⟩), if_neg h]
      omega
  have hord : (({ hdS s b l with holds := l.set j { l[j] with n := l[j].n - m } } : State)).order o = (hdS s b l).order o := rfl
  unfold State.setLine
  rw [hord]
  unfold hdS
  simp only [State.mk.injEq, true_and, and_true]
  apply List.ext_getElem?
  intro o'
  rw [hdO_get, List.getElem?_set]
  by_cases he : o = o'
  · subst he
    rw [if_pos rfl, if_pos (by rw [hdO_len]; exact ho), List.getElem?_eq_getElem ho]
    have e0 : s.order o = s.orders[o] := by unfold State.order; rw [orderAt_eq ho]
    have e1 : State.order { s with holds := l, orders := hdO s b l } o = { s.order o with lines := (s.order o).lines.mapIdx fun k y => { y with back := y.back + (keptAt s.holds o k b - keptAt l o k b) } } := hdS_order ho
    have e2 : State.line { s with holds := l, orders := hdO s b l } o k = { s.line o k with back := (s.line o k).back + (keptAt s.holds o k b - keptAt l o k b) } := hdS_line ho hk
    rw [e1, e2]
    simp only [Option.map_some, Option.some.injEq, Order.mk.injEq]
    refine ⟨by rw [e0], ?_⟩
    apply List.ext_getElem?
    intro k'
    rw [List.getElem?_mapIdx, List.getElem?_set, List.getElem?_mapIdx, ← e0]
    by_cases hke : k = k'
    · subst hke
      rw [if_pos rfl, if_pos (by simpa using hk), List.getElem?_eq_getElem hk, hkey o k, if_pos ⟨rfl, rfl⟩]
      have : s.line o k = (s.order o).lines[k] := by unfold State.line; rw [lineAt_eq hk]
      rw [this]
      simp only [Option.map_some, Option.some.injEq, Line.mk.injEq, true_and]
      omega
    · rw [if_neg hke]
      cases hq : (s.order o).lines[k']? with
      | none => rfl
      | some y =>
        simp only [Option.map_some]
        rw [hkey o k', if_neg (fun h => hke h.2.symm)]
        simp
  · rw [if_neg he, hdO_get]
    cases hq : s.orders[o']? with
    | none => rfl
    | some x =>
      simp only [Option.map_some, Option.some.injEq, Order.mk.injEq, true_and]
      apply List.ext_getElem?
      intro k'
      rw [List.getElem?_mapIdx, List.getElem?_mapIdx]
      cases hq2 : x.lines[k']? with
      | none => rfl
      | some y =>
        simp only [Option.map_some]
        rw [hkey o' k', if_neg (fun h => he h.1.symm)]
        simp
end
/-- What counting leaves ahead of the lines' holding anew, in the order in which the program goes. -/
theorem cut_is_hd {p : Plan} {s : State} {b g : Nat} {seen : Int} (hs : Sane p s) :
    let s1 : State := { s with on := setCell s.on b g seen, fixed := s.fixed.set g (intAt s.fixed g + seen - cell s.on b g), moves := (mvC b g).rest s.moves (bound s b g - seen) }
    cutS s b g seen (over s b g seen) = hdS s1 b ((hdC s1 b g).rest s1.holds ((mvC b g).mid s.moves (bound s b g - seen) 0).2) := by
  intro s1
  have hm := mv_pos hs b g
  have hh := hd_pos hs b g
  have hC : hdC s1 b g = hdC s b g := rfl
  have h1 : cutMv s b g (over s b g seen) = (mvC b g).rest s.moves (bound s b g - seen) := by
    unfold cutMv over
    rw [Cutter.rest_max hm (bound s b g - seen)]
  have hov := Cutter.cut_over (fun x hx => by have := hm x hx; omega) (bound s b g - seen) (C := mvC b g) (l := s.moves)
  have h2 : cutHd s b g (over s b g seen) = (hdC s1 b g).rest s1.holds ((mvC b g).mid s.moves (bound s b g - seen) 0).2 := by
    rw [hC, Cutter.mid_zero, hov]
    unfold cutHd over
    rw [← mv_all, Cutter.rest_max hh, Cutter.rest_max hh (bound s b g - seen - _)]
    congr 1
    have := Cutter.all_nonneg (C := mvC b g) (l := s.moves) fun x hx => by have := hm x hx; omega
    omega
  unfold hdS cutS
  rw [← h2, h1]
  rfl
end Wh
