/- plan.Bins: the bins of one kind, by a loop: the iterator's contract -/
import Derived.RangeFuncNested
import Derived.RangeFuncBox
import Derived.RangeFuncLeaves
import Derived.RangeFuncCalls
import Derived.Shelf.Abstract
import Derived.OwnWalkIn
import Derived.TacticsInMore
import Derived.LoopNIn
import Derived.LoopIn
import Derived.Maps.AppendAt
import Derived.Test.YteafeopekfhnnaaWalkB
namespace Wh
open Go Go.RowKit Go.Shelf Go.Proofs
attribute [local go_sem] run_indexAt_letter
attribute [local go_sem] Oper.semAt_some

/-- What a round of the loop's user keeps: what lay below n₀, and the one box. -/
def KpB (n₀ Bf : Nat) (W W' : World) : Prop := Below n₀ W W' ∧ W'.cell? ⟨Bf, 0, none⟩ = W.cell? ⟨Bf, 0, none⟩
set_option maxRecDepth 100000 in
set_option maxHeartbeats 2000000 in
theorem bins1_in (F : Fence) (n : Nat) (h7 : F.fn 64) (hro : F.round = none) (hn : 1 ≤ n) (l Bp Bf n₀ : Nat) (p : Plan) (f : Bool) (Ab As : Option Addr) (cb cs : Nat) (hlb : p.bins.length ≤ 6) (J Jx : List Nat → World → Prop)
    (hY : ∀ (pre : List Nat) (x : Nat) W, J pre W → pre.length < p.bins.length → YieldAt F (n - 1) Try.prog l #[.int .i64 ((x : Nat) : Int)] W fun e W' =>
      (e = .returned (.bool true) ∧ J (pre ++ [x]) W' ∧ KpB n₀ Bf W W') ∨ (e = .returned (.bool false) ∧ Jx (pre ++ [x]) W'))
    (W : World) (hn0 : n₀ ≤ W.heap.size) (hJ : AbidesFrom W.heap.size J) (hBf : Bf < W.heap.size) (hp0 : W.cell? ⟨Bp, 0, none⟩ = some (.slice Ab p.bins.length cb)) (_ : W.cell? ⟨Bp, 1, none⟩ = some (.slice As p.sizes.length cs))
    (hf : W.cell? ⟨Bf, 0, none⟩ = some (.bool f)) (hA : At W n₀ Ab (p.bins.flatMap cBin)) (h0 : J [] W) :
    CallsIn F n Try.prog 64 #[.func (.yield l) #[] #[], .pointer (some ⟨Bp, 0, none⟩), .pointer (some ⟨Bf, 0, none⟩)] W fun e W' => (∃ v, e = .returned v) ∧
      ((∃ ys, ys = kinds p f ∧ J ys W') ∨ (∃ pre, (∃ k, k ≤ p.bins.length ∧ pre = kindsTo p f k) ∧ Jx pre W')) := by
  refine callsIn_of_wp Try.func64 rfl h7 ?_ hro
  simp only [Try.ntmps64, List.size_toArray, List.length_cons, List.length_nil, Nat.reduceAdd, Nat.reduceSub, Array.replicate_succ, Array.replicate_zero, List.push_toArray, List.append_toArray, List.nil_append, List.cons_append]
  gi_wp2
  gi_loopw [9] (fun i wr => ∃ k : Nat, k ≤ p.bins.length ∧ i = .int .i64 k ∧ J (kindsTo p f k) wr ∧ KpB n₀ Bf W wr)
    (fun i _ => p.bins.length - (intOf i).toNat)
  case atStart => exact ⟨0, Nat.zero_le _, rfl, h0, Below.refl _ _, rfl⟩
  case round =>
    obtain ⟨k, hk, rfl, hJs, hnx, hnf⟩ := hrel
    by_cases hlt : k < p.bins.length
    · obtain ⟨hok, hAb, b0, b1, b2, b3⟩ := (hA.up hnx (Nat.le_refl _)).bin hlt
      have g0 := hnf.trans hf
      have hBw : Bf < wr.heap.size := by have := hnx.size; omega
      have hJa := hJ _ _ _ none hJs (World.grownBy_alloc wr (.cells #[.bool (binAt p.bins k).front, .int .i64 (binAt p.bins k).room, .int .i64 (binAt p.bins k).low, .int .i64 (binAt p.bins k).high] 35) none) (fun r h => by cases h)
      have hBa : Below n₀ wr (wr.alloc (.cells #[.bool (binAt p.bins k).front, .int .i64 (binAt p.bins k).room, .int .i64 (binAt p.bins k).low, .int .i64 (binAt p.bins k).high] 35)) := (Below.refl _ _).alloc (by have := hnx.size; omega) _
      have hca : (wr.alloc (.cells #[.bool (binAt p.bins k).front, .int .i64 (binAt p.bins k).room, .int .i64 (binAt p.bins k).low, .int .i64 (binAt p.bins k).high] 35)).cell? ⟨Bf, 0, none⟩ = wr.cell? ⟨Bf, 0, none⟩ :=
        ((Below.refl wr.heap.size wr).alloc (Nat.le_refl _) _).cell (p := ⟨Bf, 0, none⟩) hBw
      cases hfr : ((binAt p.bins k).front == f)
      · have hno := kindsTo_no (p := p) (f := f) (k := k) (by simpa using hfr)
        gi_wp2
        refine ⟨fun _ h => (by cases h), ?_⟩
        gi_wp2
        go_roundw
        case rel => exact ⟨k + 1, by omega, by simp, by rw [hno]; exact hJa, hnx.trans hBa, hca.trans hnf⟩
        case measure => simp [intOf]; omega
      · have hyes := kindsTo_yes (p := p) (f := f) (k := k) (by simpa using hfr)
        obtain ⟨fn, tmps, assign, body, hy, hR⟩ := hY _ k _ hJa (by have := kindsTo_length p f k; omega)
        gi_wp2
        refine hR.mono ?_
        rintro e W3 (⟨rfl, hJ3, hk3⟩ | ⟨rfl, hJx3⟩)
        · gi_wp2
          go_roundw
          case rel => exact ⟨k + 1, by omega, by simp, by rw [hyes]; exact hJ3, (hnx.trans hBa).trans hk3.1, (hk3.2.trans hca).trans hnf⟩
          case measure => simp [intOf]; omega
        · gi_wp2
          refine bodyPost_ret (results_none rfl _ _ _) rfl ?_
          exact ⟨⟨_, rfl⟩, .inr ⟨_, ⟨k + 1, by omega, hyes.symm⟩, hJx3⟩⟩
    · obtain rfl : k = p.bins.length := by omega
      gi_wp2
      go_end0
      exact ⟨⟨_, rfl⟩, .inl ⟨_, rfl, hJs⟩⟩

theorem bins_in (F : Fence) (n : Nat) (h : F.fn 39) (hro : F.round = none) (v0 v1 : Value) (f : Bool) (w : World) :
    CallsIn F n Try.prog 39 #[.agg #[v0, v1], .bool f] w fun e w' => e = .returned (.func (.func 64) #[] #[.pointer (some ⟨w.heap.size, 0, none⟩), .pointer (some ⟨w.heap.size + 1, 0, none⟩)]) ∧
      w' = (w.alloc (.cells #[v0, v1] 25)).alloc (.cells #[.bool f] 4) := by
  refine callsIn_of_wp Try.func39 rfl h ?_ hro
  simp only [Try.ntmps39, List.size_toArray, List.length_cons, List.length_nil, Nat.reduceAdd, Nat.reduceSub, Array.replicate_succ, Array.replicate_zero, List.push_toArray, List.append_toArray, List.nil_append, List.cons_append]
  gi_wp2
  go_ret
  exact ⟨rfl, rfl⟩

theorem bins_stops (F : Fence) (n : Nat) (h7 : F.fn 64) (hro : F.round = none) (hn : 1 ≤ n) (Bp Bf n₀ : Nat) (p : Plan) (f : Bool) (Ab As : Option Addr) (cb cs : Nat) (hlb : p.bins.length ≤ 6) (w : World) (hn0 : n₀ ≤ w.heap.size) (hBp : Bp < w.heap.size) (hBf : Bf < w.heap.size)
    (hp0 : w.cell? ⟨Bp, 0, none⟩ = some (.slice Ab p.bins.length cb)) (hp1 : w.cell? ⟨Bp, 1, none⟩ = some (.slice As p.sizes.length cs)) (hf : w.cell? ⟨Bf, 0, none⟩ = some (.bool f)) (hA : At w n₀ Ab (p.bins.flatMap cBin)) :
    SeqStopsK F n Try.prog 64 #[.pointer (some ⟨Bp, 0, none⟩), .pointer (some ⟨Bf, 0, none⟩)] (fun x : Nat => #[Value.int .i64 ((x : Nat) : Int)]) (KpB n₀ Bf) (fun ys => ys = kinds p f) (fun pre => ∃ k, k ≤ p.bins.length ∧ pre = kindsTo p f k) p.bins.length w := fun l J Jx W hW hJ _ hY h0 =>
  bins1_in F n h7 hro hn l Bp Bf n₀ p f Ab As cb cs hlb J Jx hY W (Nat.le_trans hn0 hW.size) hJ (Nat.lt_of_lt_of_le hBf hW.size) ((hW.cell (p := ⟨Bp, 0, none⟩) hBp).trans hp0) ((hW.cell (p := ⟨Bp, 1, none⟩) hBp).trans hp1)
    ((hW.cell (p := ⟨Bf, 0, none⟩) hBf).trans hf) (hA.up (hW.mono hn0) (Nat.le_refl _)) h0
end Wh
