/- Texts of the claim, joined: LibIdx, WalkC. -/
import Derived.Test.YtnjgkhcnialplaaChecked
import Derived.Test.YtnjgkhcnialplaaP02
import Derived.Test.YtnjgkhcnialplaaP06
import Derived.Test.YtnjgkhcnialplaaP08
namespace Wh
open Go Go.RowKit Go.Shelf Go.Proofs
attribute [local go_sem] run_indexAt_letter

set_option maxHeartbeats 1000000 in
theorem indexFuncBin (w : World) (v : Value) (l : List Bin) (g : FuncId) (lb : Array Value) (pred : Bin → Bool) (eg : Enters Try.prog g) (hv : Sl cBin w w.heap.size v l)
    (hf : ∀ k, k < l.length → ∀ W, Below w.heap.size w W → Calls Try.prog g (#[vBin (binAt l k)] ++ lb) W fun e W' => e = .returned (.bool (pred (binAt l k))) ∧ Below W.heap.size W W') :
    Calls Try.prog 114 #[v, .func (.func g) #[] lb] w fun e w' => e = .returned (.int .i64 (idxOf pred l)) ∧ Below w.heap.size w w' := by
  obtain ⟨A, c, rfl, hl, hA⟩ := hv
  have eg' : ∀ args w, Sem.run Try.prog (callFunc g args) w = .ok (.enter g args) w := eg
  go_enter Try.func114, Try.ntmps114
  go_wp2_with fail
  go_loopw [5, 8] (fun _ i wr => ∃ k : Nat, k ≤ l.length ∧ i = .int .i64 k ∧ (∀ j, j < k → pred (binAt l j) = false) ∧ Below w.heap.size w wr) (fun _ i _ => l.length - (intOf i).toNat)
  case atStart => exact ⟨0, Nat.zero_le _, rfl, fun j hj => by omega, Below.refl _ _⟩
  case round =>
    obtain ⟨k, hk, rfl, hall, hbw⟩ := hrel
    have hal : ∀ j (hj : j < k), pred (l[j]'(by omega)) = false := fun j hj => by have := hall j hj; rwa [binAt_eq (by omega)] at this
    by_cases hlt : k < l.length
    · obtain ⟨hok, hAb, b0, b1, b2, b3⟩ := (hA.up hbw hbw.size).bin hlt
      go_wp2_with fail
      refine (hf k hlt _ hbw).mono ?_
      rintro e W1 ⟨rfl, hb1⟩
      have hbw1 := hbw.trans (hb1.mono hbw.size)
      cases hp : pred (binAt l k)
      · go_wp2_with fail
        go_roundw
        case rel =>
          refine ⟨k + 1, by omega, by go_num, fun j hj => ?_, hbw1⟩
          rcases Nat.lt_succ_iff_lt_or_eq.1 hj with h | rfl
          · exact hall j h
          · exact hp
        case measure => simp [intOf]; omega
      · go_wp2_with fail
        go_ret
        exact ⟨ret_int (idxOf_at hlt (by rw [binAt_eq hlt] at hp; exact hp) hal), hbw1⟩
    · obtain rfl : k = l.length := by omega
      go_wp2_with fail
      go_ret
      exact ⟨ret_int (idxOf_none fun j hj => by have := hall j hj; rwa [binAt_eq hj] at this), hbw⟩
set_option maxHeartbeats 400000 in
theorem containsFuncBin (w : World) (v : Value) (l : List Bin) (g : FuncId) (lb : Array Value) (pred : Bin → Bool) (eg : Enters Try.prog g) (hv : Sl cBin w w.heap.size v l)
    (hf : ∀ k, k < l.length → ∀ W, Below w.heap.size w W → Calls Try.prog g (#[vBin (binAt l k)] ++ lb) W fun e W' => e = .returned (.bool (pred (binAt l k))) ∧ Below W.heap.size W W') :
    Calls Try.prog 82 #[v, .func (.func g) #[] lb] w fun e w' => e = .returned (.bool (l.any pred)) ∧ Below w.heap.size w w' := by
  have H := Lib.hid (indexFuncBin w v l g lb pred eg hv hf)
  clear hf
  go_enter Try.func82, Try.ntmps82
  go_wp2_with fail
  refine H.out.mono ?_
  rintro e W1 ⟨rfl, hb1⟩
  go_wp2_with fail
  go_ret
  exact ⟨ret_bool (idxOf_any pred l), hb1⟩

set_option maxHeartbeats 1000000 in
theorem indexFuncLine (w : World) (v : Value) (l : List Line) (g : FuncId) (lb : Array Value) (pred : Line → Bool) (eg : Enters Try.prog g) (hv : Sl cLine w w.heap.size v l)
    (hf : ∀ k, k < l.length → ∀ W, Below w.heap.size w W → Calls Try.prog g (#[vLine (lineAt l k)] ++ lb) W fun e W' => e = .returned (.bool (pred (lineAt l k))) ∧ Below W.heap.size W W') :
    Calls Try.prog 105 #[v, .func (.func g) #[] lb] w fun e w' => e = .returned (.int .i64 (idxOf pred l)) ∧ Below w.heap.size w w' := by
  obtain ⟨A, c, rfl, hl, hA⟩ := hv
  have eg' : ∀ args w, Sem.run Try.prog (callFunc g args) w = .ok (.enter g args) w := eg
  go_enter Try.func105, Try.ntmps105
  go_wp2_with fail
  go_loopw [5, 8] (fun _ i wr => ∃ k : Nat, k ≤ l.length ∧ i = .int .i64 k ∧ (∀ j, j < k → pred (lineAt l j) = false) ∧ Below w.heap.size w wr) (fun _ i _ => l.length - (intOf i).toNat)
  case atStart => exact ⟨0, Nat.zero_le _, rfl, fun j hj => by omega, Below.refl _ _⟩
  case round =>
    obtain ⟨k, hk, rfl, hall, hbw⟩ := hrel
    have hal : ∀ j (hj : j < k), pred (l[j]'(by omega)) = false := fun j hj => by have := hall j hj; rwa [lineAt_eq (by omega)] at this
    by_cases hlt : k < l.length
    · obtain ⟨hok, hAb, b0, b1, b2, b3⟩ := (hA.up hbw hbw.size).line hlt
      go_wp2_with fail
      refine (hf k hlt _ hbw).mono ?_
      rintro e W1 ⟨rfl, hb1⟩
      have hbw1 := hbw.trans (hb1.mono hbw.size)
      cases hp : pred (lineAt l k)
      · go_wp2_with fail
        go_roundw
        case rel =>
          refine ⟨k + 1, by omega, by go_num, fun j hj => ?_, hbw1⟩
          rcases Nat.lt_succ_iff_lt_or_eq.1 hj with h | rfl
          · exact hall j h
          · exact hp
        case measure => simp [intOf]; omega
      · go_wp2_with fail
        go_ret
        exact ⟨ret_int (idxOf_at hlt (by rw [lineAt_eq hlt] at hp; exact hp) hal), hbw1⟩
    · obtain rfl : k = l.length := by omega
      go_wp2_with fail
      go_ret
      exact ⟨ret_int (idxOf_none fun j hj => by have := hall j hj; rwa [lineAt_eq hj] at this), hbw⟩
set_option maxHeartbeats 400000 in
theorem containsFuncLine (w : World) (v : Value) (l : List Line) (g : FuncId) (lb : Array Value) (pred : Line → Bool) (eg : Enters Try.prog g) (hv : Sl cLine w w.heap.size v l)
    (hf : ∀ k, k < l.length → ∀ W, Below w.heap.size w W → Calls Try.prog g (#[vLine (lineAt l k)] ++ lb) W fun e W' => e = .returned (.bool (pred (lineAt l k))) ∧ Below W.heap.size W W') :
    Calls Try.prog 72 #[v, .func (.func g) #[] lb] w fun e w' => e = .returned (.bool (l.any pred)) ∧ Below w.heap.size w w' := by
  have H := Lib.hid (indexFuncLine w v l g lb pred eg hv hf)
  clear hf
  go_enter Try.func72, Try.ntmps72
  go_wp2_with fail
  refine H.out.mono ?_
  rintro e W1 ⟨rfl, hb1⟩
  go_wp2_with fail
  go_ret
  exact ⟨ret_bool (idxOf_any pred l), hb1⟩

set_option maxHeartbeats 1000000 in
theorem indexFuncHold (w : World) (v : Value) (l : List Hold) (g : FuncId) (lb : Array Value) (pred : Hold → Bool) (eg : Enters Try.prog g) (hv : Sl cHold w w.heap.size v l)
    (hf : ∀ k, k < l.length → ∀ W, Below w.heap.size w W → Calls Try.prog g (#[vHold (hold l k)] ++ lb) W fun e W' => e = .returned (.bool (pred (hold l k))) ∧ Below W.heap.size W W') :
    Calls Try.prog 116 #[v, .func (.func g) #[] lb] w fun e w' => e = .returned (.int .i64 (idxOf pred l)) ∧ Below w.heap.size w w' := by
  obtain ⟨A, c, rfl, hl, hA⟩ := hv
  have eg' : ∀ args w, Sem.run Try.prog (callFunc g args) w = .ok (.enter g args) w := eg
  go_enter Try.func116, Try.ntmps116
  go_wp2_with fail
  go_loopw [5, 8] (fun _ i wr => ∃ k : Nat, k ≤ l.length ∧ i = .int .i64 k ∧ (∀ j, j < k → pred (hold l j) = false) ∧ Below w.heap.size w wr) (fun _ i _ => l.length - (intOf i).toNat)
  case atStart => exact ⟨0, Nat.zero_le _, rfl, fun j hj => by omega, Below.refl _ _⟩
  case round =>
    obtain ⟨k, hk, rfl, hall, hbw⟩ := hrel
    have hal : ∀ j (hj : j < k), pred (l[j]'(by omega)) = false := fun j hj => by have := hall j hj; rwa [hold_get (by omega)] at this
    by_cases hlt : k < l.length
    · obtain ⟨hok, hAb, b0, b1, b2, b3⟩ := (hA.up hbw hbw.size).hold hlt
      go_wp2_with fail
      refine (hf k hlt _ hbw).mono ?_
      rintro e W1 ⟨rfl, hb1⟩
      have hbw1 := hbw.trans (hb1.mono hbw.size)
      cases hp : pred (hold l k)
      · go_wp2_with fail
        go_roundw
        case rel =>
          refine ⟨k + 1, by omega, by go_num, fun j hj => ?_, hbw1⟩
          rcases Nat.lt_succ_iff_lt_or_eq.1 hj with h | rfl
          · exact hall j h
          · exact hp
        case measure => simp [intOf]; omega
      · go_wp2_with fail
        go_ret
        exact ⟨ret_int (idxOf_at hlt (by rw [hold_get hlt] at hp; exact hp) hal), hbw1⟩
    · obtain rfl : k = l.length := by omega
      go_wp2_with fail
      go_ret
      exact ⟨ret_int (idxOf_none fun j hj => by have := hall j hj; rwa [hold_get hj] at this), hbw⟩
set_option maxHeartbeats 400000 in
theorem containsFuncHold (w : World) (v : Value) (l : List Hold) (g : FuncId) (lb : Array Value) (pred : Hold → Bool) (eg : Enters Try.prog g) (hv : Sl cHold w w.heap.size v l)
    (hf : ∀ k, k < l.length → ∀ W, Below w.heap.size w W → Calls Try.prog g (#[vHold (hold l k)] ++ lb) W fun e W' => e = .returned (.bool (pred (hold l k))) ∧ Below W.heap.size W W') :
    Calls Try.prog 93 #[v, .func (.func g) #[] lb] w fun e w' => e = .returned (.bool (l.any pred)) ∧ Below w.heap.size w w' := by
  have H := Lib.hid (indexFuncHold w v l g lb pred eg hv hf)
  clear hf
  go_enter Try.func93, Try.ntmps93
  go_wp2_with fail
  refine H.out.mono ?_
  rintro e W1 ⟨rfl, hb1⟩
  go_wp2_with fail
  go_ret
  exact ⟨ret_bool (idxOf_any pred l), hb1⟩

set_option maxHeartbeats 1000000 in
theorem indexFuncMove (w : World) (v : Value) (l : List Move) (g : FuncId) (lb : Array Value) (pred : Move → Bool) (eg : Enters Try.prog g) (hv : Sl cMove w w.heap.size v l)
    (hf : ∀ k, k < l.length → ∀ W, Below w.heap.size w W → Calls Try.prog g (#[vMove (moveAt l k)] ++ lb) W fun e W' => e = .returned (.bool (pred (moveAt l k))) ∧ Below W.heap.size W W') :
    Calls Try.prog 117 #[v, .func (.func g) #[] lb] w fun e w' => e = .returned (.int .i64 (idxOf pred l)) ∧ Below w.heap.size w w' := by
  obtain ⟨A, c, rfl, hl, hA⟩ := hv
  have eg' : ∀ args w, Sem.run Try.prog (callFunc g args) w = .ok (.enter g args) w := eg
  go_enter Try.func117, Try.ntmps117
  go_wp2_with fail
  go_loopw [5, 8] (fun _ i wr => ∃ k : Nat, k ≤ l.length ∧ i = .int .i64 k ∧ (∀ j, j < k → pred (moveAt l j) = false) ∧ Below w.heap.size w wr) (fun _ i _ => l.length - (intOf i).toNat)
  case atStart => exact ⟨0, Nat.zero_le _, rfl, fun j hj => by omega, Below.refl _ _⟩
  case round =>
    obtain ⟨k, hk, rfl, hall, hbw⟩ := hrel
    have hal : ∀ j (hj : j < k), pred (l[j]'(by omega)) = false := fun j hj => by have := hall j hj; rwa [moveAt_eq (by omega)] at this
    by_cases hlt : k < l.length
    · obtain ⟨hok, hAb, b0, b1, b2, b3⟩ := (hA.up hbw hbw.size).move hlt
      go_wp2_with fail
      refine (hf k hlt _ hbw).mono ?_
      rintro e W1 ⟨rfl, hb1⟩
      have hbw1 := hbw.trans (hb1.mono hbw.size)
      cases hp : pred (moveAt l k)
      · go_wp2_with fail
        go_roundw
        case rel =>
          refine ⟨k + 1, by omega, by go_num, fun j hj => ?_, hbw1⟩
          rcases Nat.lt_succ_iff_lt_or_eq.1 hj with h | rfl
          · exact hall j h
          · exact hp
        case measure => simp [intOf]; omega
      · go_wp2_with fail
        go_ret
        exact ⟨ret_int (idxOf_at hlt (by rw [moveAt_eq hlt] at hp; exact hp) hal), hbw1⟩
    · obtain rfl : k = l.length := by omega
      go_wp2_with fail
      go_ret
      exact ⟨ret_int (idxOf_none fun j hj => by have := hall j hj; rwa [moveAt_eq hj] at this), hbw⟩
set_option maxHeartbeats 400000 in
theorem containsFuncMove (w : World) (v : Value) (l : List Move) (g : FuncId) (lb : Array Value) (pred : Move → Bool) (eg : Enters Try.prog g) (hv : Sl cMove w w.heap.size v l)
    (hf : ∀ k, k < l.length → ∀ W, Below w.heap.size w W → Calls Try.prog g (#[vMove (moveAt l k)] ++ lb) W fun e W' => e = .returned (.bool (pred (moveAt l k))) ∧ Below W.heap.size W W') :
    Calls Try.prog 95 #[v, .func (.func g) #[] lb] w fun e w' => e = .returned (.bool (l.any pred)) ∧ Below w.heap.size w w' := by
  have H := Lib.hid (indexFuncMove w v l g lb pred eg hv hf)
  clear hf
  go_enter Try.func95, Try.ntmps95
  go_wp2_with fail
  refine H.out.mono ?_
  rintro e W1 ⟨rfl, hb1⟩
  go_wp2_with fail
  go_ret
  exact ⟨ret_bool (idxOf_any pred l), hb1⟩

set_option maxHeartbeats 1000000 in
theorem indexFuncRow (w : World) (v : Value) (l : List (List Int)) (g : FuncId) (lb : Array Value) (pred : (List Int) → Bool) (eg : Enters Try.prog g) (hv : SlSl cInt w w.heap.size v l)
    (hf : ∀ k, k < l.length → ∀ W, Below w.heap.size w W → ∀ u, Sl cInt W W.heap.size u (rowAt l k) → Calls Try.prog g (#[u] ++ lb) W fun e W' => e = .returned (.bool (pred (rowAt l k))) ∧ Below W.heap.size W W') :
    Calls Try.prog 115 #[v, .func (.func g) #[] lb] w fun e w' => e = .returned (.int .i64 (idxOf pred l)) ∧ Below w.heap.size w w' := by
  obtain ⟨A, c, vs, rfl, hl, hvl, hA, hrows⟩ := hv
  have eg' : ∀ args w, Sem.run Try.prog (callFunc g args) w = .ok (.enter g args) w := eg
  go_enter Try.func115, Try.ntmps115
  go_wp2_with fail
  go_loopw [5, 8] (fun _ i wr => ∃ k : Nat, k ≤ l.length ∧ i = .int .i64 k ∧ (∀ j, j < k → pred (rowAt l j) = false) ∧ Below w.heap.size w wr) (fun _ i _ => l.length - (intOf i).toNat)
  case atStart => exact ⟨0, Nat.zero_le _, rfl, fun j hj => by omega, Below.refl _ _⟩
  case round =>
    obtain ⟨k, hk, rfl, hall, hbw⟩ := hrel
    have hal : ∀ j (hj : j < k), pred (l[j]'(by omega)) = false := fun j hj => by have := hall j hj; rwa [rowAt_eq (by omega)] at this
    by_cases hlt : k < l.length
    · obtain ⟨A', c', hok, hAb, hcu, hsu⟩ := (show SlSl cInt wr wr.heap.size _ l from SlSl.up ⟨A, c, vs, rfl, hl, hvl, hA, hrows⟩ hbw hbw.size).row hlt
      go_wp2_with fail
      refine (hf k hlt _ hbw _ hsu).mono ?_
      rintro e W1 ⟨rfl, hb1⟩
      have hbw1 := hbw.trans (hb1.mono hbw.size)
      cases hp : pred (rowAt l k)
      · go_wp2_with fail
        go_roundw
        case rel =>
          refine ⟨k + 1, by omega, by go_num, fun j hj => ?_, hbw1⟩
          rcases Nat.lt_succ_iff_lt_or_eq.1 hj with h | rfl
          · exact hall j h
          · exact hp
        case measure => simp [intOf]; omega
      · go_wp2_with fail
        go_ret
        exact ⟨ret_int (idxOf_at hlt (by rw [rowAt_eq hlt] at hp; exact hp) hal), hbw1⟩
    · obtain rfl : k = l.length := by omega
      go_wp2_with fail
      go_ret
      exact ⟨ret_int (idxOf_none fun j hj => by have := hall j hj; rwa [rowAt_eq hj] at this), hbw⟩
set_option maxHeartbeats 400000 in
theorem containsFuncRow (w : World) (v : Value) (l : List (List Int)) (g : FuncId) (lb : Array Value) (pred : (List Int) → Bool) (eg : Enters Try.prog g) (hv : SlSl cInt w w.heap.size v l)
    (hf : ∀ k, k < l.length → ∀ W, Below w.heap.size w W → ∀ u, Sl cInt W W.heap.size u (rowAt l k) → Calls Try.prog g (#[u] ++ lb) W fun e W' => e = .returned (.bool (pred (rowAt l k))) ∧ Below W.heap.size W W') :
    Calls Try.prog 87 #[v, .func (.func g) #[] lb] w fun e w' => e = .returned (.bool (l.any pred)) ∧ Below w.heap.size w w' := by
  have H := Lib.hid (indexFuncRow w v l g lb pred eg hv hf)
  clear hf
  go_enter Try.func87, Try.ntmps87
  go_wp2_with fail
  refine H.out.mono ?_
  rintro e W1 ⟨rfl, hb1⟩
  go_wp2_with fail
  go_ret
  exact ⟨ret_bool (idxOf_any pred l), hb1⟩

set_option maxHeartbeats 1000000 in
theorem indexFuncOrder (w : World) (v : Value) (l : List Order) (g : FuncId) (lb : Array Value) (pred : Order → Bool) (eg : Enters Try.prog g) (hv : SlOrders w w.heap.size v l)
    (hf : ∀ k, k < l.length → ∀ W, Below w.heap.size w W → ∀ u, Sl cLine W W.heap.size u (orderAt l k).lines → Calls Try.prog g (#[.agg #[.int .i64 (orderAt l k).kind, u]] ++ lb) W fun e W' => e = .returned (.bool (pred (orderAt l k))) ∧ Below W.heap.size W W') :
    Calls Try.prog 88 #[v, .func (.func g) #[] lb] w fun e w' => e = .returned (.int .i64 (idxOf pred l)) ∧ Below w.heap.size w w' := by
  obtain ⟨A, c, vs, rfl, hl, hvl, hA, hrows⟩ := hv
  have eg' : ∀ args w, Sem.run Try.prog (callFunc g args) w = .ok (.enter g args) w := eg
  go_enter Try.func88, Try.ntmps88
  go_wp2_with fail
  go_loopw [5, 8] (fun _ i wr => ∃ k : Nat, k ≤ l.length ∧ i = .int .i64 k ∧ (∀ j, j < k → pred (orderAt l j) = false) ∧ Below w.heap.size w wr) (fun _ i _ => l.length - (intOf i).toNat)
  case atStart => exact ⟨0, Nat.zero_le _, rfl, fun j hj => by omega, Below.refl _ _⟩
  case round =>
    obtain ⟨k, hk, rfl, hall, hbw⟩ := hrel
    have hal : ∀ j (hj : j < k), pred (l[j]'(by omega)) = false := fun j hj => by have := hall j hj; rwa [orderAt_eq (by omega)] at this
    by_cases hlt : k < l.length
    · obtain ⟨A', c', hok, hAb, hc0, hcu, hsu⟩ := (show SlOrders wr wr.heap.size _ l from SlOrders.up ⟨A, c, vs, rfl, hl, hvl, hA, hrows⟩ hbw hbw.size).order hlt
      go_wp2_with fail
      refine (hf k hlt _ hbw _ hsu).mono ?_
      rintro e W1 ⟨rfl, hb1⟩
      have hbw1 := hbw.trans (hb1.mono hbw.size)
      cases hp : pred (orderAt l k)
      · go_wp2_with fail
        go_roundw
        case rel =>
          refine ⟨k + 1, by omega, by go_num, fun j hj => ?_, hbw1⟩
          rcases Nat.lt_succ_iff_lt_or_eq.1 hj with h | rfl
          · exact hall j h
          · exact hp
        case measure => simp [intOf]; omega
      · go_wp2_with fail
        go_ret
        exact ⟨ret_int (idxOf_at hlt (by rw [orderAt_eq hlt] at hp; exact hp) hal), hbw1⟩
    · obtain rfl : k = l.length := by omega
      go_wp2_with fail
      go_ret
      exact ⟨ret_int (idxOf_none fun j hj => by have := hall j hj; rwa [orderAt_eq hj] at this), hbw⟩
set_option maxHeartbeats 400000 in
theorem containsFuncOrder (w : World) (v : Value) (l : List Order) (g : FuncId) (lb : Array Value) (pred : Order → Bool) (eg : Enters Try.prog g) (hv : SlOrders w w.heap.size v l)
    (hf : ∀ k, k < l.length → ∀ W, Below w.heap.size w W → ∀ u, Sl cLine W W.heap.size u (orderAt l k).lines → Calls Try.prog g (#[.agg #[.int .i64 (orderAt l k).kind, u]] ++ lb) W fun e W' => e = .returned (.bool (pred (orderAt l k))) ∧ Below W.heap.size W W') :
    Calls Try.prog 55 #[v, .func (.func g) #[] lb] w fun e w' => e = .returned (.bool (l.any pred)) ∧ Below w.heap.size w w' := by
  have H := Lib.hid (indexFuncOrder w v l g lb pred eg hv hf)
  clear hf
  go_enter Try.func55, Try.ntmps55
  go_wp2_with fail
  refine H.out.mono ?_
  rintro e W1 ⟨rfl, hb1⟩
  go_wp2_with fail
  go_ret
  exact ⟨ret_bool (idxOf_any pred l), hb1⟩

end Wh
namespace Wh
open Go Go.RowKit Go.Shelf Go.Proofs
attribute [local go_sem] run_indexAt_letter

theorem infoInt : Elem Try.prog 3 (.int .i64 0) 1 8 := elem_of (by kernel_rfl)

set_option maxRecDepth 10000 in
set_option maxHeartbeats 1000000 in
theorem rWayOf (w : World) (v : Value) (p : Plan) (hp : PlanV w w.heap.size v p) (hn : p.bins.length ≤ 100) :
    Calls Try.prog 108 #[v] w (Gives (fun u w' => Own cInt 1 3 w' w.heap.size u (nats (way p))) w) := by
  obtain ⟨_, _, rfl, ⟨Ab, cb, rfl, hlb, hb⟩, ⟨As, cs, rfl, hls, hs⟩⟩ := hp
  have hb0 : Below w.heap.size w (w.alloc (.cells #[.slice Ab p.bins.length cb, .slice As p.sizes.length cs] 25)) := (Below.refl _ _).alloc (Nat.le_refl _) _
  go_enter Try.func108, Try.ntmps108
  go_wp2_with fail
  go_loopw [3, 4] (fun u i wr => ∃ k : Nat, k ≤ p.bins.length ∧ i = .int .i64 k ∧ Own cInt 1 3 wr (w.heap.size + 1) u (nats (kindsTo p true k)) ∧ Below w.heap.size w wr ∧ w.heap.size < wr.heap.size ∧ wr.cell? ⟨w.heap.size, 0, none⟩ = some (.slice Ab p.bins.length cb)) (fun _ i _ => p.bins.length - (intOf i).toNat)
  case atStart => exact ⟨0, Nat.zero_le _, rfl, Own.nil, hb0, by simp, by simp⟩
  case round =>
    obtain ⟨k, hk, rfl, hown, hbw, hsz, hc0⟩ := hrel
    by_cases hlt : k < p.bins.length
    · obtain ⟨hok, hAb, b0, b1, b2, b3⟩ := (hb.up hbw hbw.size).bin hlt
      have hmax : k ≤ 9223372036854775806 := by omega
      cases hf : (binAt p.bins k).front
      · go_wp2_with fail
        go_roundw
        case rel => exact ⟨k + 1, by omega, by go_num, by rw [kindsTo_no (by rw [hf]; decide)]; exact hown, hbw, hsz, hc0⟩
        case measure => simp [intOf]; omega
      · have hlen : (nats (kindsTo p true k)).length ≤ 1000000 := by rw [nats_length]; have := kindsTo_length p true k; omega
        go_wp2_with (at_builtin; refine Hid.out ?_)
        unfold Hid
        refine wpList_push _ rfl (.tmp 19) (.tmp 21) 23 3 rfl (w.heap.size + 1) _ 1 8 Try.underlying23 infoInt rfl (by decide) (by decide) u3 (nats (kindsTo p true k)) (k : Int) rfl (hown.alloc _) ⟨wr.heap.size, 0, none⟩ 1 rfl rfl (cell_one_new _ _ _) (one_int _) hlen (by simp; omega) ?_
        intro v1 w1 hown1 hg1 hat1 hbel1
        have hbw1 : Below w.heap.size w w1 := (hbw.alloc hbw.size _).trans (hbel1.mono (by omega))
        have hsz1 : w.heap.size < w1.heap.size := by have := hg1.size; simp at this; omega
        have hc1 : w1.cell? ⟨w.heap.size, 0, none⟩ = some (.slice Ab p.bins.length cb) := by
          rw [hbel1.cell (p := ⟨w.heap.size, 0, none⟩) (by simp), World.cell?_alloc_lt _ _ _ hsz]; exact hc0
        go_wp2_with fail
        go_roundw
        case rel => exact ⟨k + 1, by omega, by go_num, by rw [kindsTo_yes hf, nats_append]; exact hown1, hbw1, hsz1, hc1⟩
        case measure => simp [intOf]; omega
    · obtain rfl : k = p.bins.length := by omega
      rw [kindsTo_end] at hown
      go_wp2_with fail
      go_loopw [3, 5] (fun u i wr => ∃ k : Nat, k ≤ p.bins.length ∧ i = .int .i64 k ∧ Own cInt 1 3 wr (w.heap.size + 1) u (nats (kinds p true ++ kindsTo p false k)) ∧ Below w.heap.size w wr ∧ w.heap.size < wr.heap.size ∧ wr.cell? ⟨w.heap.size, 0, none⟩ = some (.slice Ab p.bins.length cb)) (fun _ i _ => p.bins.length - (intOf i).toNat)
      case atStart => exact ⟨0, Nat.zero_le _, rfl, by simpa [kindsTo] using hown, hbw, hsz, hc0⟩
      case round =>
        clear hown hbw hsz hc0
        obtain ⟨k, hk, rfl, hown, hbw, hsz, hc0⟩ := hrel
        by_cases hlt : k < p.bins.length
        · obtain ⟨hok, hAb, b0, b1, b2, b3⟩ := (hb.up hbw hbw.size).bin hlt
          cases hf : (binAt p.bins k).front
          · have hlen : (nats (kinds p true ++ kindsTo p false k)).length ≤ 1000000 := by
              rw [nats_length, List.length_append]; have h1 := kindsTo_length p false k; have h2 := kindsTo_length p true p.bins.length; rw [kindsTo_end] at h2; omega
            go_wp2_with (at_builtin; refine Hid.out ?_)
            unfold Hid
            refine wpList_push _ rfl (.tmp 37) (.tmp 39) 23 3 rfl (w.heap.size + 1) _ 1 8 Try.underlying23 infoInt rfl (by decide) (by decide) u3 (nats (kinds p true ++ kindsTo p false k)) (k : Int) rfl (hown.alloc _) ⟨wr.heap.size, 0, none⟩ 1 rfl rfl (cell_one_new _ _ _) (one_int _) hlen (by simp; omega) ?_
            intro v1 w1 hown1 hg1 hat1 hbel1
            have hbw1 : Below w.heap.size w w1 := (hbw.alloc hbw.size _).trans (hbel1.mono (by omega))
            have hsz1 : w.heap.size < w1.heap.size := by have := hg1.size; simp at this; omega
            have hc1 : w1.cell? ⟨w.heap.size, 0, none⟩ = some (.slice Ab p.bins.length cb) := by
              rw [hbel1.cell (p := ⟨w.heap.size, 0, none⟩) (by simp), World.cell?_alloc_lt _ _ _ hsz]; exact hc0
            go_wp2_with fail
            go_roundw
            case rel => exact ⟨k + 1, by omega, by go_num, by rw [kindsTo_yes hf, ← List.append_assoc, nats_append]; exact hown1, hbw1, hsz1, hc1⟩
            case measure => simp [intOf]; omega
          · go_wp2_with fail
            go_roundw
            case rel => exact ⟨k + 1, by omega, by go_num, by rw [kindsTo_no (by rw [hf]; decide)]; exact hown, hbw, hsz, hc0⟩
            case measure => simp [intOf]; omega
        · obtain rfl : k = p.bins.length := by omega
          go_wp2_with fail
          go_ret
          exact ⟨_, rfl, hown.from_ (by omega), hbw⟩
end Wh
