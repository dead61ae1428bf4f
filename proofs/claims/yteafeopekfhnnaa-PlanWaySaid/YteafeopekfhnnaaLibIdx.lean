/- slices.IndexFunc and slices.ContainsFunc: walks (printed by gen_idx.py) -/
import Derived.Test.YteafeopekfhnnaaChecked
import Derived.Test.YteafeopekfhnnaaMem
import Derived.Test.YteafeopekfhnnaaPlainB
namespace Wh
open Go Go.RowKit Go.Shelf Go.Proofs
attribute [local go_sem] run_indexAt_letter

set_option maxHeartbeats 1000000 in
theorem indexFuncBin (w : World) (v : Value) (l : List Bin) (g : FuncId) (lb : Array Value) (pred : Bin → Bool) (eg : Enters Try.prog g) (hv : Sl cBin w w.heap.size v l)
    (hf : ∀ k, k < l.length → ∀ W, Below w.heap.size w W → Calls Try.prog g (#[vBin (binAt l k)] ++ lb) W fun e W' => e = .returned (.bool (pred (binAt l k))) ∧ Below W.heap.size W W') :
    Calls Try.prog 65 #[v, .func (.func g) #[] lb] w fun e w' => e = .returned (.int .i64 (idxOf pred l)) ∧ Below w.heap.size w w' := by
  obtain ⟨A, c, rfl, hl, hA⟩ := hv
  have eg' : ∀ args w, Sem.run Try.prog (callFunc g args) w = .ok (.enter g args) w := eg
  go_enter Try.func65, Try.ntmps65
  go_wp2_with fail
  go_loopw [5, 8] (fun _ i wr => ∃ k : Nat, k ≤ l.length ∧ i = .int .i64 k ∧ (∀ j, j < k → pred (binAt l j) = false) ∧ Below w.heap.size w wr) (fun _ i _ => l.length - (intOf i).toNat)
  case atStart => exact ⟨0, Nat.zero_le _, rfl, fun j hj => by omega, Below.refl _ _⟩
  case round =>
    obtain ⟨k, hk, rfl, hall, hbw⟩ := hrel
    have hal : ∀ j (hj : j < k), pred (l[j]'(by omega)) = false := fun j hj => by have := hall j hj; rwa [binAt_eq (by omega)] at this
    by_cases hlt : k < l.length
    · obtain ⟨hok, hAb, b0, b1, b2, b3⟩ := (hA.up hbw hbw.size).bin hlt
      go_wp2_with fail
      refine (hf k hlt _ hbw).mono ?_
      rintro e W1 ⟨rfl, hb1⟩
      have hbw1 := hbw.trans (hb1.mono hbw.size)
      cases hp : pred (binAt l k)
      · go_wp2_with fail
        go_roundw
        case rel =>
          refine ⟨k + 1, by omega, by go_num, fun j hj => ?_, hbw1⟩
          rcases Nat.lt_succ_iff_lt_or_eq.1 hj with h | rfl
          · exact hall j h
          · exact hp
        case measure => simp [intOf]; omega
      · go_wp2_with fail
        go_ret
        exact ⟨ret_int (idxOf_at hlt (by rw [binAt_eq hlt] at hp; exact hp) hal), hbw1⟩
    · obtain rfl : k = l.length := by omega
      go_wp2_with fail
      go_ret
      exact ⟨ret_int (idxOf_none fun j hj => by have := hall j hj; rwa [binAt_eq hj] at this), hbw⟩
set_option maxHeartbeats 400000 in
theorem containsFuncBin (w : World) (v : Value) (l : List Bin) (g : FuncId) (lb : Array Value) (pred : Bin → Bool) (eg : Enters Try.prog g) (hv : Sl cBin w w.heap.size v l)
    (hf : ∀ k, k < l.length → ∀ W, Below w.heap.size w W → Calls Try.prog g (#[vBin (binAt l k)] ++ lb) W fun e W' => e = .returned (.bool (pred (binAt l k))) ∧ Below W.heap.size W W') :
    Calls Try.prog 43 #[v, .func (.func g) #[] lb] w fun e w' => e = .returned (.bool (l.any pred)) ∧ Below w.heap.size w w' := by
  have H := Lib.hid (indexFuncBin w v l g lb pred eg hv hf)
  clear hf
  go_enter Try.func43, Try.ntmps43
  go_wp2_with fail
  refine H.out.mono ?_
  rintro e W1 ⟨rfl, hb1⟩
  go_wp2_with fail
  go_ret
  exact ⟨ret_bool (idxOf_any pred l), hb1⟩




set_option maxHeartbeats 1000000 in
theorem indexFuncRow (w : World) (v : Value) (l : List (List Int)) (g : FuncId) (lb : Array Value) (pred : (List Int) → Bool) (eg : Enters Try.prog g) (hv : SlSl cInt w w.heap.size v l)
    (hf : ∀ k, k < l.length → ∀ W, Below w.heap.size w W → ∀ u, Sl cInt W W.heap.size u (rowAt l k) → Calls Try.prog g (#[u] ++ lb) W fun e W' => e = .returned (.bool (pred (rowAt l k))) ∧ Below W.heap.size W W') :
    Calls Try.prog 67 #[v, .func (.func g) #[] lb] w fun e w' => e = .returned (.int .i64 (idxOf pred l)) ∧ Below w.heap.size w w' := by
  obtain ⟨A, c, vs, rfl, hl, hvl, hA, hrows⟩ := hv
  have eg' : ∀ args w, Sem.run Try.prog (callFunc g args) w = .ok (.enter g args) w := eg
  go_enter Try.func67, Try.ntmps67
  go_wp2_with fail
  go_loopw [5, 8] (fun _ i wr => ∃ k : Nat, k ≤ l.length ∧ i = .int .i64 k ∧ (∀ j, j < k → pred (rowAt l j) = false) ∧ Below w.heap.size w wr) (fun _ i _ => l.length - (intOf i).toNat)
  case atStart => exact ⟨0, Nat.zero_le _, rfl, fun j hj => by omega, Below.refl _ _⟩
  case round =>
    obtain ⟨k, hk, rfl, hall, hbw⟩ := hrel
    have hal : ∀ j (hj : j < k), pred (l[j]'(by omega)) = false := fun j hj => by have := hall j hj; rwa [rowAt_eq (by omega)] at this
    by_cases hlt : k < l.length
    · obtain ⟨A', c', hok, hAb, hcu, hsu⟩ := (show SlSl cInt wr wr.heap.size _ l from SlSl.up ⟨A, c, vs, rfl, hl, hvl, hA, hrows⟩ hbw hbw.size).row hlt
      go_wp2_with fail
      refine (hf k hlt _ hbw _ hsu).mono ?_
      rintro e W1 ⟨rfl, hb1⟩
      have hbw1 := hbw.trans (hb1.mono hbw.size)
      cases hp : pred (rowAt l k)
      · go_wp2_with fail
        go_roundw
        case rel =>
          refine ⟨k + 1, by omega, by go_num, fun j hj => ?_, hbw1⟩
          rcases Nat.lt_succ_iff_lt_or_eq.1 hj with h | rfl
          · exact hall j h
          · exact hp
        case measure => simp [intOf]; omega
      · go_wp2_with fail
        go_ret
        exact ⟨ret_int (idxOf_at hlt (by rw [rowAt_eq hlt] at hp; exact hp) hal), hbw1⟩
    · obtain rfl : k = l.length := by omega
      go_wp2_with fail
      go_ret
      exact ⟨ret_int (idxOf_none fun j hj => by have := hall j hj; rwa [rowAt_eq hj] at this), hbw⟩
set_option maxHeartbeats 400000 in
theorem containsFuncRow (w : World) (v : Value) (l : List (List Int)) (g : FuncId) (lb : Array Value) (pred : (List Int) → Bool) (eg : Enters Try.prog g) (hv : SlSl cInt w w.heap.size v l)
    (hf : ∀ k, k < l.length → ∀ W, Below w.heap.size w W → ∀ u, Sl cInt W W.heap.size u (rowAt l k) → Calls Try.prog g (#[u] ++ lb) W fun e W' => e = .returned (.bool (pred (rowAt l k))) ∧ Below W.heap.size W W') :
    Calls Try.prog 51 #[v, .func (.func g) #[] lb] w fun e w' => e = .returned (.bool (l.any pred)) ∧ Below w.heap.size w w' := by
  have H := Lib.hid (indexFuncRow w v l g lb pred eg hv hf)
  clear hf
  go_enter Try.func51, Try.ntmps51
  go_wp2_with fail
  refine H.out.mono ?_
  rintro e W1 ⟨rfl, hb1⟩
  go_wp2_with fail
  go_ret
  exact ⟨ret_bool (idxOf_any pred l), hb1⟩


end Wh
