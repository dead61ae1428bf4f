/- Texts of the claim, joined: LibIdx, WalkC, WalkD, WalkT, Reg, Own. -/
import Derived.Test.YtbmklcloknpniaaChecked
import Derived.Test.YtbmklcloknpniaaQ01
import Derived.Test.YtbmklcloknpniaaQ02
namespace Wh
open Go Go.RowKit Go.Shelf Go.Proofs
attribute [local go_sem] run_indexAt_letter

set_option maxHeartbeats 1000000 in
theorem indexFuncBin (w : World) (v : Value) (l : List Bin) (g : FuncId) (lb : Array Value) (pred : Bin → Bool) (eg : Enters Try.prog g) (hv : Sl cBin w w.heap.size v l)
    (hf : ∀ k, k < l.length → ∀ W, Below w.heap.size w W → Calls Try.prog g (#[vBin (binAt l k)] ++ lb) W fun e W' => e = .returned (.bool (pred (binAt l k))) ∧ Below W.heap.size W W') :
    Calls Try.prog 62 #[v, .func (.func g) #[] lb] w fun e w' => e = .returned (.int .i64 (idxOf pred l)) ∧ Below w.heap.size w w' := by
  obtain ⟨A, c, rfl, hl, hA⟩ := hv
  have eg' : ∀ args w, Sem.run Try.prog (callFunc g args) w = .ok (.enter g args) w := eg
  go_enter Try.func62, Try.ntmps62
  go_wp2_with fail
  go_loopw [5, 8] (fun _ i wr => ∃ k : Nat, k ≤ l.length ∧ i = .int .i64 k ∧ (∀ j, j < k → pred (binAt l j) = false) ∧ Below w.heap.size w wr) (fun _ i _ => l.length - (intOf i).toNat)
  case atStart => exact ⟨0, Nat.zero_le _, rfl, fun j hj => by omega, Below.refl _ _⟩
  case round =>
    obtain ⟨k, hk, rfl, hall, hbw⟩ := hrel
    have hal : ∀ j (hj : j < k), pred (l[j]'(by omega)) = false := fun j hj => by have := hall j hj; rwa [binAt_eq (by omega)] at this
    by_cases hlt : k < l.length
    · obtain ⟨hok, hAb, b0, b1, b2, b3⟩ := (hA.up hbw hbw.size).bin hlt
      go_wp2_with fail
      refine (hf k hlt _ hbw).mono ?_
      rintro e W1 ⟨rfl, hb1⟩
      have hbw1 := hbw.trans (hb1.mono hbw.size)
      cases hp : pred (binAt l k)
      · go_wp2_with fail
        go_roundw
        case rel =>
          refine ⟨k + 1, by omega, by go_num, fun j hj => ?_, hbw1⟩
          rcases Nat.lt_succ_iff_lt_or_eq.1 hj with h | rfl
          · exact hall j h
          · exact hp
        case measure => simp [intOf]; omega
      · go_wp2_with fail
        go_ret
        exact ⟨ret_int (idxOf_at hlt (by rw [binAt_eq hlt] at hp; exact hp) hal), hbw1⟩
    · obtain rfl : k = l.length := by omega
      go_wp2_with fail
      go_ret
      exact ⟨ret_int (idxOf_none fun j hj => by have := hall j hj; rwa [binAt_eq hj] at this), hbw⟩
set_option maxHeartbeats 400000 in
theorem containsFuncBin (w : World) (v : Value) (l : List Bin) (g : FuncId) (lb : Array Value) (pred : Bin → Bool) (eg : Enters Try.prog g) (hv : Sl cBin w w.heap.size v l)
    (hf : ∀ k, k < l.length → ∀ W, Below w.heap.size w W → Calls Try.prog g (#[vBin (binAt l k)] ++ lb) W fun e W' => e = .returned (.bool (pred (binAt l k))) ∧ Below W.heap.size W W') :
    Calls Try.prog 53 #[v, .func (.func g) #[] lb] w fun e w' => e = .returned (.bool (l.any pred)) ∧ Below w.heap.size w w' := by
  have H := Lib.hid (indexFuncBin w v l g lb pred eg hv hf)
  clear hf
  go_enter Try.func53, Try.ntmps53
  go_wp2_with fail
  refine H.out.mono ?_
  rintro e W1 ⟨rfl, hb1⟩
  go_wp2_with fail
  go_ret
  exact ⟨ret_bool (idxOf_any pred l), hb1⟩

set_option maxHeartbeats 1000000 in
theorem indexFuncLine (w : World) (v : Value) (l : List Line) (g : FuncId) (lb : Array Value) (pred : Line → Bool) (eg : Enters Try.prog g) (hv : Sl cLine w w.heap.size v l)
    (hf : ∀ k, k < l.length → ∀ W, Below w.heap.size w W → Calls Try.prog g (#[vLine (lineAt l k)] ++ lb) W fun e W' => e = .returned (.bool (pred (lineAt l k))) ∧ Below W.heap.size W W') :
    Calls Try.prog 56 #[v, .func (.func g) #[] lb] w fun e w' => e = .returned (.int .i64 (idxOf pred l)) ∧ Below w.heap.size w w' := by
  obtain ⟨A, c, rfl, hl, hA⟩ := hv
  have eg' : ∀ args w, Sem.run Try.prog (callFunc g args) w = .ok (.enter g args) w := eg
  go_enter Try.func56, Try.ntmps56
  go_wp2_with fail
  go_loopw [5, 8] (fun _ i wr => ∃ k : Nat, k ≤ l.length ∧ i = .int .i64 k ∧ (∀ j, j < k → pred (lineAt l j) = false) ∧ Below w.heap.size w wr) (fun _ i _ => l.length - (intOf i).toNat)
  case atStart => exact ⟨0, Nat.zero_le _, rfl, fun j hj => by omega, Below.refl _ _⟩
  case round =>
    obtain ⟨k, hk, rfl, hall, hbw⟩ := hrel
    have hal : ∀ j (hj : j < k), pred (l[j]'(by omega)) = false := fun j hj => by have := hall j hj; rwa [lineAt_eq (by omega)] at this
    by_cases hlt : k < l.length
    · obtain ⟨hok, hAb, b0, b1, b2, b3⟩ := (hA.up hbw hbw.size).line hlt
      go_wp2_with fail
      refine (hf k hlt _ hbw).mono ?_
      rintro e W1 ⟨rfl, hb1⟩
      have hbw1 := hbw.trans (hb1.mono hbw.size)
      cases hp : pred (lineAt l k)
      · go_wp2_with fail
        go_roundw
        case rel =>
          refine ⟨k + 1, by omega, by go_num, fun j hj => ?_, hbw1⟩
          rcases Nat.lt_succ_iff_lt_or_eq.1 hj with h | rfl
          · exact hall j h
          · exact hp
        case measure => simp [intOf]; omega
      · go_wp2_with fail
        go_ret
        exact ⟨ret_int (idxOf_at hlt (by rw [lineAt_eq hlt] at hp; exact hp) hal), hbw1⟩
    · obtain rfl : k = l.length := by omega
      go_wp2_with fail
      go_ret
      exact ⟨ret_int (idxOf_none fun j hj => by have := hall j hj; rwa [lineAt_eq hj] at this), hbw⟩
set_option maxHeartbeats 400000 in
theorem containsFuncLine (w : World) (v : Value) (l : List Line) (g : FuncId) (lb : Array Value) (pred : Line → Bool) (eg : Enters Try.prog g) (hv : Sl cLine w w.heap.size v l)
    (hf : ∀ k, k < l.length → ∀ W, Below w.heap.size w W → Calls Try.prog g (#[vLine (lineAt l k)] ++ lb) W fun e W' => e = .returned (.bool (pred (lineAt l k))) ∧ Below W.heap.size W W') :
    Calls Try.prog 38 #[v, .func (.func g) #[] lb] w fun e w' => e = .returned (.bool (l.any pred)) ∧ Below w.heap.size w w' := by
  have H := Lib.hid (indexFuncLine w v l g lb pred eg hv hf)
  clear hf
  go_enter Try.func38, Try.ntmps38
  go_wp2_with fail
  refine H.out.mono ?_
  rintro e W1 ⟨rfl, hb1⟩
  go_wp2_with fail
  go_ret
  exact ⟨ret_bool (idxOf_any pred l), hb1⟩

set_option maxHeartbeats 1000000 in
theorem indexFuncHold (w : World) (v : Value) (l : List Hold) (g : FuncId) (lb : Array Value) (pred : Hold → Bool) (eg : Enters Try.prog g) (hv : Sl cHold w w.heap.size v l)
    (hf : ∀ k, k < l.length → ∀ W, Below w.heap.size w W → Calls Try.prog g (#[vHold (hold l k)] ++ lb) W fun e W' => e = .returned (.bool (pred (hold l k))) ∧ Below W.heap.size W W') :
    Calls Try.prog 59 #[v, .func (.func g) #[] lb] w fun e w' => e = .returned (.int .i64 (idxOf pred l)) ∧ Below w.heap.size w w' := by
  obtain ⟨A, c, rfl, hl, hA⟩ := hv
  have eg' : ∀ args w, Sem.run Try.prog (callFunc g args) w = .ok (.enter g args) w := eg
  go_enter Try.func59, Try.ntmps59
  go_wp2_with fail
  go_loopw [5, 8] (fun _ i wr => ∃ k : Nat, k ≤ l.length ∧ i = .int .i64 k ∧ (∀ j, j < k → pred (hold l j) = false) ∧ Below w.heap.size w wr) (fun _ i _ => l.length - (intOf i).toNat)
  case atStart => exact ⟨0, Nat.zero_le _, rfl, fun j hj => by omega, Below.refl _ _⟩
  case round =>
    obtain ⟨k, hk, rfl, hall, hbw⟩ := hrel
    have hal : ∀ j (hj : j < k), pred (l[j]'(by omega)) = false := fun j hj => by have := hall j hj; rwa [hold_get (by omega)] at this
    by_cases hlt : k < l.length
    · obtain ⟨hok, hAb, b0, b1, b2, b3⟩ := (hA.up hbw hbw.size).hold hlt
      go_wp2_with fail
      refine (hf k hlt _ hbw).mono ?_
      rintro e W1 ⟨rfl, hb1⟩
      have hbw1 := hbw.trans (hb1.mono hbw.size)
      cases hp : pred (hold l k)
      · go_wp2_with fail
        go_roundw
        case rel =>
          refine ⟨k + 1, by omega, by go_num, fun j hj => ?_, hbw1⟩
          rcases Nat.lt_succ_iff_lt_or_eq.1 hj with h | rfl
          · exact hall j h
          · exact hp
        case measure => simp [intOf]; omega
      · go_wp2_with fail
        go_ret
        exact ⟨ret_int (idxOf_at hlt (by rw [hold_get hlt] at hp; exact hp) hal), hbw1⟩
    · obtain rfl : k = l.length := by omega
      go_wp2_with fail
      go_ret
      exact ⟨ret_int (idxOf_none fun j hj => by have := hall j hj; rwa [hold_get hj] at this), hbw⟩
set_option maxHeartbeats 400000 in
theorem containsFuncHold (w : World) (v : Value) (l : List Hold) (g : FuncId) (lb : Array Value) (pred : Hold → Bool) (eg : Enters Try.prog g) (hv : Sl cHold w w.heap.size v l)
    (hf : ∀ k, k < l.length → ∀ W, Below w.heap.size w W → Calls Try.prog g (#[vHold (hold l k)] ++ lb) W fun e W' => e = .returned (.bool (pred (hold l k))) ∧ Below W.heap.size W W') :
    Calls Try.prog 44 #[v, .func (.func g) #[] lb] w fun e w' => e = .returned (.bool (l.any pred)) ∧ Below w.heap.size w w' := by
  have H := Lib.hid (indexFuncHold w v l g lb pred eg hv hf)
  clear hf
  go_enter Try.func44, Try.ntmps44
  go_wp2_with fail
  refine H.out.mono ?_
  rintro e W1 ⟨rfl, hb1⟩
  go_wp2_with fail
  go_ret
  exact ⟨ret_bool (idxOf_any pred l), hb1⟩

set_option maxHeartbeats 1000000 in
theorem indexFuncMove (w : World) (v : Value) (l : List Move) (g : FuncId) (lb : Array Value) (pred : Move → Bool) (eg : Enters Try.prog g) (hv : Sl cMove w w.heap.size v l)
    (hf : ∀ k, k < l.length → ∀ W, Below w.heap.size w W → Calls Try.prog g (#[vMove (moveAt l k)] ++ lb) W fun e W' => e = .returned (.bool (pred (moveAt l k))) ∧ Below W.heap.size W W') :
    Calls Try.prog 60 #[v, .func (.func g) #[] lb] w fun e w' => e = .returned (.int .i64 (idxOf pred l)) ∧ Below w.heap.size w w' := by
  obtain ⟨A, c, rfl, hl, hA⟩ := hv
  have eg' : ∀ args w, Sem.run Try.prog (callFunc g args) w = .ok (.enter g args) w := eg
  go_enter Try.func60, Try.ntmps60
  go_wp2_with fail
  go_loopw [5, 8] (fun _ i wr => ∃ k : Nat, k ≤ l.length ∧ i = .int .i64 k ∧ (∀ j, j < k → pred (moveAt l j) = false) ∧ Below w.heap.size w wr) (fun _ i _ => l.length - (intOf i).toNat)
  case atStart => exact ⟨0, Nat.zero_le _, rfl, fun j hj => by omega, Below.refl _ _⟩
  case round =>
    obtain ⟨k, hk, rfl, hall, hbw⟩ := hrel
    have hal : ∀ j (hj : j < k), pred (l[j]'(by omega)) = false := fun j hj => by have := hall j hj; rwa [moveAt_eq (by omega)] at this
    by_cases hlt : k < l.length
    · obtain ⟨hok, hAb, b0, b1, b2, b3⟩ := (hA.up hbw hbw.size).move hlt
      go_wp2_with fail
      refine (hf k hlt _ hbw).mono ?_
      rintro e W1 ⟨rfl, hb1⟩
      have hbw1 := hbw.trans (hb1.mono hbw.size)
      cases hp : pred (moveAt l k)
      · go_wp2_with fail
        go_roundw
        case rel =>
          refine ⟨k + 1, by omega, by go_num, fun j hj => ?_, hbw1⟩
          rcases Nat.lt_succ_iff_lt_or_eq.1 hj with h | rfl
          · exact hall j h
          · exact hp
        case measure => simp [intOf]; omega
      · go_wp2_with fail
        go_ret
        exact ⟨ret_int (idxOf_at hlt (by rw [moveAt_eq hlt] at hp; exact hp) hal), hbw1⟩
    · obtain rfl : k = l.length := by omega
      go_wp2_with fail
      go_ret
      exact ⟨ret_int (idxOf_none fun j hj => by have := hall j hj; rwa [moveAt_eq hj] at this), hbw⟩
set_option maxHeartbeats 400000 in
theorem containsFuncMove (w : World) (v : Value) (l : List Move) (g : FuncId) (lb : Array Value) (pred : Move → Bool) (eg : Enters Try.prog g) (hv : Sl cMove w w.heap.size v l)
    (hf : ∀ k, k < l.length → ∀ W, Below w.heap.size w W → Calls Try.prog g (#[vMove (moveAt l k)] ++ lb) W fun e W' => e = .returned (.bool (pred (moveAt l k))) ∧ Below W.heap.size W W') :
    Calls Try.prog 46 #[v, .func (.func g) #[] lb] w fun e w' => e = .returned (.bool (l.any pred)) ∧ Below w.heap.size w w' := by
  have H := Lib.hid (indexFuncMove w v l g lb pred eg hv hf)
  clear hf
  go_enter Try.func46, Try.ntmps46
  go_wp2_with fail
  refine H.out.mono ?_
  rintro e W1 ⟨rfl, hb1⟩
  go_wp2_with fail
  go_ret
  exact ⟨ret_bool (idxOf_any pred l), hb1⟩

set_option maxHeartbeats 1000000 in
theorem indexFuncRow (w : World) (v : Value) (l : List (List Int)) (g : FuncId) (lb : Array Value) (pred : (List Int) → Bool) (eg : Enters Try.prog g) (hv : SlSl cInt w w.heap.size v l)
    (hf : ∀ k, k < l.length → ∀ W, Below w.heap.size w W → ∀ u, Sl cInt W W.heap.size u (rowAt l k) → Calls Try.prog g (#[u] ++ lb) W fun e W' => e = .returned (.bool (pred (rowAt l k))) ∧ Below W.heap.size W W') :
    Calls Try.prog 55 #[v, .func (.func g) #[] lb] w fun e w' => e = .returned (.int .i64 (idxOf pred l)) ∧ Below w.heap.size w w' := by
  obtain ⟨A, c, vs, rfl, hl, hvl, hA, hrows⟩ := hv
  have eg' : ∀ args w, Sem.run Try.prog (callFunc g args) w = .ok (.enter g args) w := eg
  go_enter Try.func55, Try.ntmps55
  go_wp2_with fail
  go_loopw [5, 8] (fun _ i wr => ∃ k : Nat, k ≤ l.length ∧ i = .int .i64 k ∧ (∀ j, j < k → pred (rowAt l j) = false) ∧ Below w.heap.size w wr) (fun _ i _ => l.length - (intOf i).toNat)
  case atStart => exact ⟨0, Nat.zero_le _, rfl, fun j hj => by omega, Below.refl _ _⟩
  case round =>
    obtain ⟨k, hk, rfl, hall, hbw⟩ := hrel
    have hal : ∀ j (hj : j < k), pred (l[j]'(by omega)) = false := fun j hj => by have := hall j hj; rwa [rowAt_eq (by omega)] at this
    by_cases hlt : k < l.length
    · obtain ⟨A', c', hok, hAb, hcu, hsu⟩ := (show SlSl cInt wr wr.heap.size _ l from SlSl.up ⟨A, c, vs, rfl, hl, hvl, hA, hrows⟩ hbw hbw.size).row hlt
      go_wp2_with fail
      refine (hf k hlt _ hbw _ hsu).mono ?_
      rintro e W1 ⟨rfl, hb1⟩
      have hbw1 := hbw.trans (hb1.mono hbw.size)
      cases hp : pred (rowAt l k)
      · go_wp2_with fail
        go_roundw
        case rel =>
          refine ⟨k + 1, by omega, by go_num, fun j hj => ?_, hbw1⟩
          rcases Nat.lt_succ_iff_lt_or_eq.1 hj with h | rfl
          · exact hall j h
          · exact hp
        case measure => simp [intOf]; omega
      · go_wp2_with fail
        go_ret
        exact ⟨ret_int (idxOf_at hlt (by rw [rowAt_eq hlt] at hp; exact hp) hal), hbw1⟩
    · obtain rfl : k = l.length := by omega
      go_wp2_with fail
      go_ret
      exact ⟨ret_int (idxOf_none fun j hj => by have := hall j hj; rwa [rowAt_eq hj] at this), hbw⟩
set_option maxHeartbeats 400000 in
theorem containsFuncRow (w : World) (v : Value) (l : List (List Int)) (g : FuncId) (lb : Array Value) (pred : (List Int) → Bool) (eg : Enters Try.prog g) (hv : SlSl cInt w w.heap.size v l)
    (hf : ∀ k, k < l.length → ∀ W, Below w.heap.size w W → ∀ u, Sl cInt W W.heap.size u (rowAt l k) → Calls Try.prog g (#[u] ++ lb) W fun e W' => e = .returned (.bool (pred (rowAt l k))) ∧ Below W.heap.size W W') :
    Calls Try.prog 36 #[v, .func (.func g) #[] lb] w fun e w' => e = .returned (.bool (l.any pred)) ∧ Below w.heap.size w w' := by
  have H := Lib.hid (indexFuncRow w v l g lb pred eg hv hf)
  clear hf
  go_enter Try.func36, Try.ntmps36
  go_wp2_with fail
  refine H.out.mono ?_
  rintro e W1 ⟨rfl, hb1⟩
  go_wp2_with fail
  go_ret
  exact ⟨ret_bool (idxOf_any pred l), hb1⟩

set_option maxHeartbeats 1000000 in
theorem indexFuncOrder (w : World) (v : Value) (l : List Order) (g : FuncId) (lb : Array Value) (pred : Order → Bool) (eg : Enters Try.prog g) (hv : SlOrders w w.heap.size v l)
    (hf : ∀ k, k < l.length → ∀ W, Below w.heap.size w W → ∀ u, Sl cLine W W.heap.size u (orderAt l k).lines → Calls Try.prog g (#[.agg #[.int .i64 (orderAt l k).kind, u]] ++ lb) W fun e W' => e = .returned (.bool (pred (orderAt l k))) ∧ Below W.heap.size W W') :
    Calls Try.prog 37 #[v, .func (.func g) #[] lb] w fun e w' => e = .returned (.int .i64 (idxOf pred l)) ∧ Below w.heap.size w w' := by
  obtain ⟨A, c, vs, rfl, hl, hvl, hA, hrows⟩ := hv
  have eg' : ∀ args w, Sem.run Try.prog (callFunc g args) w = .ok (.enter g args) w := eg
  go_enter Try.func37, Try.ntmps37
  go_wp2_with fail
  go_loopw [5, 8] (fun _ i wr => ∃ k : Nat, k ≤ l.length ∧ i = .int .i64 k ∧ (∀ j, j < k → pred (orderAt l j) = false) ∧ Below w.heap.size w wr) (fun _ i _ => l.length - (intOf i).toNat)
  case atStart => exact ⟨0, Nat.zero_le _, rfl, fun j hj => by omega, Below.refl _ _⟩
  case round =>
    obtain ⟨k, hk, rfl, hall, hbw⟩ := hrel
    have hal : ∀ j (hj : j < k), pred (l[j]'(by omega)) = false := fun j hj => by have := hall j hj; rwa [orderAt_eq (by omega)] at this
    by_cases hlt : k < l.length
    · obtain ⟨A', c', hok, hAb, hc0, hcu, hsu⟩ := (show SlOrders wr wr.heap.size _ l from SlOrders.up ⟨A, c, vs, rfl, hl, hvl, hA, hrows⟩ hbw hbw.size).order hlt
      go_wp2_with fail
      refine (hf k hlt _ hbw _ hsu).mono ?_
      rintro e W1 ⟨rfl, hb1⟩
      have hbw1 := hbw.trans (hb1.mono hbw.size)
      cases hp : pred (orderAt l k)
      · go_wp2_with fail
        go_roundw
        case rel =>
          refine ⟨k + 1, by omega, by go_num, fun j hj => ?_, hbw1⟩
          rcases Nat.lt_succ_iff_lt_or_eq.1 hj with h | rfl
          · exact hall j h
          · exact hp
        case measure => simp [intOf]; omega
      · go_wp2_with fail
        go_ret
        exact ⟨ret_int (idxOf_at hlt (by rw [orderAt_eq hlt] at hp; exact hp) hal), hbw1⟩
    · obtain rfl : k = l.length := by omega
      go_wp2_with fail
      go_ret
      exact ⟨ret_int (idxOf_none fun j hj => by have := hall j hj; rwa [orderAt_eq hj] at this), hbw⟩
set_option maxHeartbeats 400000 in
theorem containsFuncOrder (w : World) (v : Value) (l : List Order) (g : FuncId) (lb : Array Value) (pred : Order → Bool) (eg : Enters Try.prog g) (hv : SlOrders w w.heap.size v l)
    (hf : ∀ k, k < l.length → ∀ W, Below w.heap.size w W → ∀ u, Sl cLine W W.heap.size u (orderAt l k).lines → Calls Try.prog g (#[.agg #[.int .i64 (orderAt l k).kind, u]] ++ lb) W fun e W' => e = .returned (.bool (pred (orderAt l k))) ∧ Below W.heap.size W W') :
    Calls Try.prog 19 #[v, .func (.func g) #[] lb] w fun e w' => e = .returned (.bool (l.any pred)) ∧ Below w.heap.size w w' := by
  have H := Lib.hid (indexFuncOrder w v l g lb pred eg hv hf)
  clear hf
  go_enter Try.func19, Try.ntmps19
  go_wp2_with fail
  refine H.out.mono ?_
  rintro e W1 ⟨rfl, hb1⟩
  go_wp2_with fail
  go_ret
  exact ⟨ret_bool (idxOf_any pred l), hb1⟩

end Wh
namespace Wh
open Go Go.RowKit Go.Shelf Go.Proofs
attribute [local go_sem] run_indexAt_letter

theorem infoInt : Elem Try.prog 3 (.int .i64 0) 1 8 := elem_of (by kernel_rfl)

end Wh
namespace Wh
open Go Go.RowKit Go.Shelf Go.Proofs
attribute [local go_sem] run_indexAt_letter

set_option maxHeartbeats 400000 in
theorem pWithin (n lo hi : Int) (w : World) :
    Calls Try.prog 52 #[.int .i64 n, .int .i64 lo, .int .i64 hi] w fun e w' => e = .returned (.bool (within n lo hi)) ∧ w = w' := by
  go_enter Try.func52, Try.ntmps52
  by_cases h1 : lo ≤ n
  · by_cases h2 : n ≤ hi
    · go_wp2
      go_ret
      exact ⟨by simp [within, h1, h2], rfl⟩
    · go_wp2
      go_ret
      exact ⟨by simp [within]; omega, rfl⟩
  · go_wp2
    go_ret
    exact ⟨by simp [within]; omega, rfl⟩

set_option maxHeartbeats 400000 in
theorem planBad (b : Bin) (W : World) :
    Calls Try.prog 54 #[vBin b] W fun e W' => e = .returned (.bool (!binOk b)) ∧ Below W.heap.size W W' := by
  unfold vBin
  go_enter Try.func54, Try.ntmps54
  rcases binOk_bad b with ⟨h1, h⟩ | ⟨h1, h2, h⟩ | ⟨h1, h2, h3, h⟩ | ⟨h1, h2, h3, h⟩
  · go_wp2_with (go_at_call 52; refine (pWithin _ _ _ _).mono ?_; rintro e w' ⟨rfl, rfl⟩)
    go_ret
    exact ⟨ret_bool (by rw [h]; rfl), (Below.refl _ _).alloc (Nat.le_refl _) _⟩
  · go_wp2_with (go_at_call 52; refine (pWithin _ _ _ _).mono ?_; rintro e w' ⟨rfl, rfl⟩)
    go_ret
    exact ⟨ret_bool (by rw [h]; rfl), (Below.refl _ _).alloc (Nat.le_refl _) _⟩
  · go_wp2_with (go_at_call 52; refine (pWithin _ _ _ _).mono ?_; rintro e w' ⟨rfl, rfl⟩)
    go_ret
    exact ⟨ret_bool (by rw [h]; rfl), (Below.refl _ _).alloc (Nat.le_refl _) _⟩
  · go_wp2_with (go_at_call 52; refine (pWithin _ _ _ _).mono ?_; rintro e w' ⟨rfl, rfl⟩)
    go_ret
    exact ⟨ret_bool (by rw [h]; simp; omega), (Below.refl _ _).alloc (Nat.le_refl _) _⟩

theorem entersBad : Enters Try.prog 54 := enters_of Try.func54 (by kernel_rfl) rfl

set_option maxHeartbeats 1000000 in
theorem planCheck (w : World) (v : Value) (p : Plan) (hp : PlanV w w.heap.size v p) :
    Calls Try.prog 32 #[v] w fun e w' => e = .returned (.int .i64 (checkPlan p)) ∧ Below w.heap.size w w' := by
  obtain ⟨_, _, rfl, ⟨Ab, cb, rfl, hlb, hb⟩, ⟨As, cs, rfl, hls, hs⟩⟩ := hp
  have hb0 : Below w.heap.size w (w.alloc (.cells #[.slice Ab p.bins.length cb, .slice As p.sizes.length cs] 25)) := (Below.refl _ _).alloc (Nat.le_refl _) _
  go_enter Try.func32, Try.ntmps32
  cases h1 : within p.bins.length 1 6
  · go_wp2_with (go_at_call 52; refine (pWithin _ _ _ _).mono ?_; rintro e w' ⟨rfl, rfl⟩)
    go_ret
    exact ⟨ret_int (checkPlan_two (.inl h1)).symm, hb0⟩
  cases h2 : within p.sizes.length 1 3
  · go_wp2_with (go_at_call 52; refine (pWithin _ _ _ _).mono ?_; rintro e w' ⟨rfl, rfl⟩)
    go_ret
    exact ⟨ret_int (checkPlan_two (.inr h2)).symm, hb0⟩
  have hpos : 0 < p.sizes.length := by have := within_iff.1 h2; omega
  have hsb : ∀ W, Below w.heap.size w W → Sl cBin W W.heap.size (.slice Ab p.bins.length cb) p.bins := fun W hW => Sl.up ⟨Ab, cb, rfl, hlb, hb⟩ hW hW.size
  have hss : ∀ W, Below w.heap.size w W → Sl cInt W W.heap.size (.slice As p.sizes.length cs) p.sizes := fun W hW => Sl.up ⟨As, cs, rfl, hls, hs⟩ hW hW.size
  go_wp2_with (go_at_call 52; refine (pWithin _ _ _ _).mono ?_; rintro e w' ⟨rfl, rfl⟩)
  refine (containsFuncBin _ _ p.bins 54 #[] (fun b => !binOk b) entersBad (hsb _ hb0) (fun k _ W _ => planBad _ W)).mono ?_
  rintro e W1 ⟨rfl, hb1⟩
  have hbw := hb0.trans (hb1.mono (by simp))
  have hsz := hb1.size
  obtain ⟨hc1, hf1⟩ := bcell hb1
  cases hbad : (p.bins.any fun b => !binOk b)
  · go_wp2_with fail
    refine (slMin _ _ p.sizes (hss _ hbw) hpos).mono ?_
    rintro e w' ⟨rfl, rfl⟩
    by_cases hlo : lowest p.sizes < 1
    · go_wp2_with fail
      go_ret
      exact ⟨ret_int (checkPlan_lowest h1 h2 hlo).symm, hbw⟩
    · go_wp2_with fail
      refine (slMax _ _ p.sizes (hss _ hbw) hpos).mono ?_
      rintro e w' ⟨rfl, rfl⟩
      by_cases hgr : 9 < greatest p.sizes
      · go_wp2_with fail
        go_ret
        exact ⟨ret_int (checkPlan_greatest h1 h2 hgr).symm, hbw⟩
      · go_wp2_with fail
        go_ret
        exact ⟨ret_int (checkPlan_good h1 h2 hbad (by omega) (by omega)).symm, hbw⟩
  · go_wp2_with fail
    go_ret
    exact ⟨ret_int (checkPlan_bad h1 h2 hbad).symm, hbw⟩
end Wh
namespace Wh
open Go Go.RowKit Go.Shelf Go.Proofs
attribute [local go_sem] run_indexAt_letter
attribute [local go_sem] Oper.semAt_some

/-- These blocks lie as they are given. -/
def HeldDs (L : List (Nat × Obj)) (W : World) : Prop := ∀ x ∈ L, W.heap[x.1]? = some x.2
theorem HeldDs.lt {L : List (Nat × Obj)} {W : World} (h : HeldDs L W) : ∀ x ∈ L, x.1 < W.heap.size := fun x hx => (Array.getElem?_eq_some_iff.1 (h x hx)).1
theorem HeldDs.grown {L : List (Nat × Obj)} {W W' : World} {row : Option Nat} (h : HeldDs L W) (hg : W.grownBy W' row) (hne : ∀ x ∈ L, some x.1 ≠ row) : HeldDs L W' := fun x hx => (hg.block x.1 (h.lt x hx) (hne x hx)).trans (h x hx)
theorem HeldDs.alloc {L : List (Nat × Obj)} {W : World} (h : HeldDs L W) (o : Obj) : HeldDs L (W.alloc o) := h.grown (World.grownBy_alloc W o none) (fun _ _ e => by cases e)
theorem HeldDs.setCell {L : List (Nat × Obj)} {W : World} (h : HeldDs L W) (B : Nat) (u : Value) (hne : ∀ x ∈ L, x.1 ≠ B) : HeldDs L (W.setCell ⟨B, 0, none⟩ u) := h.grown (grownBy_setCell' W B u) (fun x hx e => hne x hx (by cases e; rfl))
theorem HeldDs.not_row {L : List (Nat × Obj)} {W : World} {e : TypeId} (h : HeldDs L W) (ht : ∀ x ∈ L, ∀ cs sp, x.2 ≠ .cells cs e sp) {base size k : Nat} {v : Value} {xs : List Value} (hr : W.ownsRow base e size v k xs) : ∀ x ∈ L, some x.1 ≠ v.ownBlock := by
  intro x hx
  rcases hr.2 with ⟨rfl, _⟩ | ⟨g, cap, cur, rfl, _, hgb, _⟩
  · simp [Value.ownBlock]
  · intro e'
    obtain ⟨i, o⟩ := x
    obtain rfl : i = g := by simpa [Value.ownBlock] using e'
    have h1 := h _ hx
    simp only at h1
    rw [hgb] at h1
    exact ht _ hx _ _ (Option.some.inj h1).symm
theorem HeldDs.from_ {β : Type} {B : Nat} {L : List (Nat × Obj)} (hB : ∀ x ∈ L, x.1 < B) : OwnFrom B (fun (_ : β) W => HeldDs L W) := fun _ _ _ _ hs hg hr => hs.grown hg (fun x hx e => by
  have := (hr x.1 e.symm).1
  have := hB x hx
  omega)
theorem heap_alloc_old {W : World} {o : Obj} {B : Nat} (h : B < W.heap.size) : (W.alloc o).heap[B]? = W.heap[B]? := Below.heap_alloc W o B h
theorem heap_alloc_at {W : World} {o : Obj} {B : Nat} (h : B = W.heap.size) : (W.alloc o).heap[B]? = some o := by
  subst h
  exact World.alloc_heap_new W o
end Wh
namespace Wh
open Go Go.RowKit

/-- How far a world is from another: its draws, the blocks behind. -/
structure GB where
  d : Nat
  os : Array Obj
instance : Inhabited GB := ⟨⟨0, #[]⟩⟩

def wld (w : World) (d : Nat) (os : Array Obj) : World := { w with drawn := d, heap := w.heap ++ os }

theorem below_wld (w : World) (d : Nat) (os : Array Obj) : Below w.heap.size w (wld w d os) :=
  ⟨rfl, rfl, rfl, by simp [wld], fun k hk => by simp [wld, Array.getElem?_append_left hk]⟩
theorem wld_of_below {w w' : World} (h : Below w.heap.size w w') : ∃ p : GB, w' = wld w p.d p.os := by
  obtain ⟨h1, h2, h3, h4, h5⟩ := h
  obtain ⟨heap, tape, drawn, os, output⟩ := w'
  refine ⟨⟨drawn, heap.extract w.heap.size heap.size⟩, ?_⟩
  simp only at h1 h2 h3 h4 h5
  subst h1 h2 h3
  unfold wld
  congr 1
  apply Array.ext_getElem?
  intro k
  by_cases hk : k < w.heap.size
  · rw [h5 k hk, Array.getElem?_append_left hk]
  · rw [Array.getElem?_append_right (by omega)]
    simp only [Array.getElem?_extract]
    by_cases hl : k < heap.size
    · rw [if_pos (by omega)]
      congr 1
      omega
    · rw [if_neg (by omega), Array.getElem?_eq_none (by omega)]
theorem cells_wld {w : World} {b : Nat} (hb : b < w.heap.size) (o : Nat) (d : Nat) (os : Array Obj) : (wld w d os).cell? ⟨b, o, none⟩ = w.cell? ⟨b, o, none⟩ :=
  (below_wld w d os).cell (p := ⟨b, o, none⟩) hb
theorem wp_region_wld {P : Program} {id : Nat} {Q : Exit → Act → World → Prop} {a : Act} {w : World} {l : List Oper} (hm : P.follows .mixedOrders = true) (hB : Region.lexB .any l.toArray = true)
    (h : wpQuiet P l.toArray (fun w' => ∃ p : GB, w' = wld w p.d p.os) (fun a' => ∀ w', (∃ p : GB, w' = wld w p.d p.os) → Q .normal a' w') l a) : (Code.region id l.toArray true).wp P Q a w :=
  wp_region_quiet (C := fun w' => ∃ p : GB, w' = wld w p.d p.os) hm hB ⟨⟨w.drawn + 1, #[]⟩, by simp [wld]⟩ (by simpa using h)
/-- A callee's contract, met in a world of the class. -/
theorem calls_wld {P : Program} {f : FuncId} {args : Array Value} {w : World} {d : Nat} {os : Array Obj} {v : Value}
    (h : Calls P f args (wld w d os) fun e w' => e = .returned v ∧ Below (wld w d os).heap.size (wld w d os) w') : Calls P f args (wld w d os) fun e w'' => e = .returned v ∧ ∃ p : GB, w'' = wld w p.d p.os :=
  h.mono fun _ _ ⟨he, hb⟩ => ⟨he, wld_of_below ((below_wld w d os).trans (hb.mono (below_wld w d os).size))⟩
theorem below_of_cls {w W : World} (h : ∃ p : GB, W = wld w p.d p.os) : Below w.heap.size w W := by
  obtain ⟨p, rfl⟩ := h
  exact below_wld w p.d p.os
end Wh
namespace Wh
open Go Go.RowKit

section
variable {P : Program} (w : World)
theorem run_append_nil (base : Nat) (t ty e : TypeId) (i : TypeInfo) (size : Nat) (ht : P.underlying t = some (.slice e)) (hi : P.info? e = some i)
    (v : Value) (n : Nat) (xs : List Value) (hown : w.ownsRow base e size v n xs) (c : Nat) : (Builtin.append_ #[t, t] ty #[v, .slice none 0 c]).run P w = .ok v w := by
  rcases hown.2 with ⟨rfl, rfl⟩ | ⟨g, cap, cur, rfl, _, _, hnc, _⟩
  · simp [Builtin.append_, run_underlying ht, Go.sizeOf, typeInfo, hi, Builtin.lenOf, Builtin.firstCells]
  · simp [Builtin.append_, run_underlying ht, Go.sizeOf, typeInfo, hi, Builtin.lenOf, Builtin.firstCells, hnc, storeCells]

/-- 'v = append(v, xs...)': whatever slice xs is. -/
theorem wpList_all {α : Type} {enc : α → List Value} {ops : Array Oper} {rest : List Oper} {o : Oper} {a : Go.Act} {Q : Exit → Go.Act → World → Prop} (hgd : o.guard = none) (s x : Operand) (t e : TypeId)
    (ho : o.op = .call { callee := .builtin .append, args := #[s, x], argTypes := #[t, t] }) (base : Nat) (z : Value) (size bytes : Nat) (ht : P.underlying t = some (.slice e)) (hi : Elem P e z size bytes)
    (hzs : z.cells.size = size) (hsz : 0 < size) (hby : bytes ≤ 64) (v : Value) (l m : List α) (hs : a.eval s = v) (hown : Own enc size e w base v l)
    (A : Option Addr) (c B : Nat) (hx : a.eval x = .slice A m.length c) (hk : ∀ y, (enc y).length = size) (hA : At w B A (m.flatMap enc)) (h1 : ∀ y, ∀ u ∈ enc y, u.oneCell' = true)
    (hn : l.length + m.length ≤ 1000000) (hbase : base ≤ w.heap.size)
    (h : ∀ v' w', Own enc size e w' base v' (l ++ m) → w.grownBy w' v.ownBlock → (v'.ownBlock = v.ownBlock ∨ v'.ownBlock = some w.heap.size) → Below base w w' → wpList P ops Q rest (a.put o.dst v') w') :
    wpList P ops Q (o :: rest) a w := by
  obtain ⟨i, hi, hz, hsize, hbytes⟩ := hi
  have hb : (l.length + m.length) * bytes ≤ 140737488355328 := Nat.le_trans (Nat.mul_le_mul hn hby) (by decide)
  have hsplit : (A = none ∧ m.length = 0) ∨ ∃ ad : Addr, A = some ad ∧ ∀ j u, (m.flatMap enc)[j]? = some u → w.cell? (ad.add j) = some u := by
    rcases Nat.eq_zero_or_pos m.length with h0 | h0
    · obtain rfl : m = [] := List.eq_nil_of_length_eq_zero h0
      cases A with
      | none => exact .inl ⟨rfl, rfl⟩
      | some ad => exact .inr ⟨ad, rfl, by simp⟩
    · have hp : 0 < (m.flatMap enc).length := by rw [flat_length enc size hk]; exact Nat.mul_pos h0 hsz
      have he := (hA.ok hp).eq
      refine .inr ⟨_, he, fun j u hj => ?_⟩
      rw [Addr.add_lit]
      exact hA.cell hj
  rcases hsplit with ⟨rfl, h0⟩ | ⟨ad, rfl, hcells⟩
  · obtain rfl : m = [] := List.eq_nil_of_length_eq_zero h0
    refine wpList_plain hgd fun K hK => ?_
    have hr := run_append_nil (P := P) w base t o.type e i size ht hi v l.length _ hown c
    unfold Oper.wp execOp
    simp only [List.length_nil] at hx
    simp only [ho, resolve, invoke, builtin, Sem.run_bind, Sem.run_pure, Result.andThen_ok, List.map_toArray, List.map_cons, List.map_nil, hs, hx, hr]
    exact hK _ _ (h v w (by rw [List.append_nil]; exact hown) (World.grownBy.refl w _) (.inl rfl) (Below.refl _ _))
  · refine wpList_append_own_at w hgd s x t ho base e i z size bytes ht hi hz hsize hbytes hzs hsz v l.length _ hs hown ad m.length c (m.flatMap enc) hx (flat_length enc size hk m) hcells
      (fun u hu => by obtain ⟨y, _, hy⟩ := List.mem_flatMap.1 hu; exact h1 y u hy) (by unfold maxLen; omega) hb hbase ?_
    intro v' w' h2 h3 _ h5
    refine h v' w' ?_ h3 h5 ((Below.refl _ _).grown h3 hbase fun k hk => (World.ownsRow.lt hown k hk).1)
    unfold Own
    rw [List.length_append, List.flatMap_append]
    exact h2
end

section
variable {α : Type} {enc : α → List Value} {size : Nat} {e : TypeId} {w w' : World} {base : Nat} {v : Value} {l : List α}
/-- An empty row, made by a literal. -/
theorem Own.made0 (w : World) (e : TypeId) (hb : base ≤ w.heap.size) : Own enc size e (w.alloc (.cells #[] e)) base (.slice (some ⟨w.heap.size, 0, none⟩) 0 0) [] :=
  World.ownsRow_made w #[] 0 hb (Nat.zero_le _) (by simp)
/-- A row that a literal makes. -/
theorem Own.lit (w : World) (e : TypeId) (cs : Array Value) (l : List α) (hb : base ≤ w.heap.size) (hm : l.length ≤ 1000000) (hk : ∀ x, (enc x).length = size) (hc : cs.toList = l.flatMap enc) :
    Own enc size e (w.alloc (.cells cs e)) base (.slice (some ⟨w.heap.size, 0, none⟩) l.length l.length) l := by
  have hs : cs.size = l.length * size := by rw [← Array.length_toList, hc, flat_length enc size hk]
  have := World.ownsRow_lit (e := e) w cs l.length hb (by unfold maxLen; omega) hs
  rw [hc] at this
  exact this
theorem Own.kept {row : Option Nat} (h : Own enc size e w base v l) (hg : w.grownBy w' row) (hne : v.ownBlock = none ∨ v.ownBlock ≠ row) : Own enc size e w' base v l := World.ownsRow.kept h hg hne
/-- The block in which it lies, its cells and their type. -/
theorem Own.block (h : Own enc size e w base v l) {g : Nat} (hg : v.ownBlock = some g) : ∃ cur, w.heap[g]? = some (.cells cur e (0, 0)) := by
  rcases h.2 with ⟨rfl, _⟩ | ⟨g', cap, cur, rfl, _, hh, _⟩
  · simp [Value.ownBlock] at hg
  · simp [Value.ownBlock] at hg
    subst hg
    exact ⟨cur, hh⟩
theorem Own.some_ (h : Own enc size e w base v l) (hl : 0 < l.length) : ∃ g c, v = .slice (some ⟨g, 0, none⟩) l.length c ∧ base ≤ g ∧ g < w.heap.size := by
  rcases h.2 with ⟨_, h0⟩ | ⟨g, cap, cur, h1, h2, h3, _⟩
  · omega
  · exact ⟨g, cap, h1, h2, (Array.getElem?_eq_some_iff.1 h3).1⟩
/-- Rows whose elements differ in type never share a block. -/
theorem Own.apart {β : Type} {enc' : β → List Value} {size' : Nat} {e' : TypeId} {base' : Nat} {v' : Value} {l' : List β} (h : Own enc size e w base v l) (h' : Own enc' size' e' w base' v' l') (hne : e ≠ e') :
    v.ownBlock = none ∨ v.ownBlock ≠ v'.ownBlock := by
  cases hv : v.ownBlock with
  | none => exact .inl rfl
  | some g =>
    refine .inr fun he => ?_
    obtain ⟨c1, h1⟩ := h.block hv
    obtain ⟨c2, h2⟩ := h'.block he.symm
    rw [h1] at h2
    injection h2 with h2
    injection h2 with _ h3
    exact hne h3
end

/-- Rows of numbers of the call's own: the outer row's elements have type E2, the numbers E1; gs: the rows' blocks. -/
def OwnOnV (E2 E1 : TypeId) (w : World) (base : Nat) (v : Value) (l : List (List Int)) (gs : List Nat) (vs : List Value) : Prop :=
  Own (fun u : Value => [u]) 1 E2 w base v vs ∧ vs.length = l.length ∧ gs.length = l.length ∧ gs.Nodup ∧
    ∀ (i : Nat) (x : List Int), l[i]? = some x → ∃ g c, vs[i]? = some (.slice (some ⟨g, 0, none⟩) x.length c) ∧ gs[i]? = some g ∧ Own cInt 1 E1 w base (.slice (some ⟨g, 0, none⟩) x.length c) x
def OwnOn (E2 E1 : TypeId) (w : World) (base : Nat) (v : Value) (l : List (List Int)) (gs : List Nat) : Prop := ∃ vs, OwnOnV E2 E1 w base v l gs vs

section
variable {E2 E1 : TypeId} {w w' : World} {base : Nat} {v : Value} {l : List (List Int)} {gs : List Nat}
theorem OwnOn.nil : OwnOn E2 E1 w base (.slice none 0 0) [] [] := ⟨[], Own.nil, rfl, rfl, List.nodup_nil, fun i x h => by simp at h⟩
theorem OwnOn.below (h : OwnOn E2 E1 w base v l gs) (hb : Below w.heap.size w w') : OwnOn E2 E1 w' base v l gs :=
  let ⟨vs, h1, h2, h3, h4, h5⟩ := h
  ⟨vs, h1.below hb, h2, h3, h4, fun i x hi => let ⟨g, c, e1, e2, e3⟩ := h5 i x hi; ⟨g, c, e1, e2, e3.below hb⟩⟩
theorem OwnOn.from_ {base' : Nat} (h : OwnOn E2 E1 w base v l gs) (hb : base' ≤ base) : OwnOn E2 E1 w base' v l gs :=
  let ⟨vs, h1, h2, h3, h4, h5⟩ := h
  ⟨vs, h1.from_ hb, h2, h3, h4, fun i x hi => let ⟨g, c, e1, e2, e3⟩ := h5 i x hi; ⟨g, c, e1, e2, e3.from_ hb⟩⟩
theorem OwnOn.drew (h : OwnOn E2 E1 w base v l gs) : OwnOn E2 E1 w.drew base v l gs := h
theorem OwnOn.mem (h : OwnOn E2 E1 w base v l gs) {g : Nat} (hg : g ∈ gs) : base ≤ g ∧ g < w.heap.size := by
  obtain ⟨vs, h1, h2, h3, h4, h5⟩ := h
  obtain ⟨i, hi, rfl⟩ := List.getElem_of_mem hg
  obtain ⟨g, c, e1, e2, e3⟩ := h5 i l[i] (by simp [← h3, hi])
  rw [List.getElem?_eq_getElem hi] at e2
  injection e2 with e2
  rw [e2]
  exact e3.size g rfl
/-- One row more. -/
theorem OwnOnV.push (hE : E1 ≠ E2) {vs : List Value} (h : OwnOnV E2 E1 w base v l gs vs) {w1 w2 : World} {v' : Value} {x : List Int} {g c : Nat} (hw : Below w.heap.size w w1) (hg : w.heap.size ≤ g)
    (hu : Own cInt 1 E1 w1 base (.slice (some ⟨g, 0, none⟩) x.length c) x) (hgrow : w1.grownBy w2 v.ownBlock)
    (hown : Own (fun u : Value => [u]) 1 E2 w2 base v' (vs ++ [.slice (some ⟨g, 0, none⟩) x.length c])) :
    OwnOn E2 E1 w2 base v' (l ++ [x]) (gs ++ [g]) := by
  have hmem := fun g' (hg' : g' ∈ gs) => OwnOn.mem ⟨vs, h⟩ hg'
  obtain ⟨h1, h2, h3, h4, h5⟩ := h
  have keep : ∀ {y : List Int} {g' c' : Nat}, Own cInt 1 E1 w1 base (.slice (some ⟨g', 0, none⟩) y.length c') y → Own cInt 1 E1 w2 base (.slice (some ⟨g', 0, none⟩) y.length c') y :=
    fun hy => hy.kept hgrow (Own.apart hy (h1.below hw) hE)
  refine ⟨_, hown, by simp [h2], by simp [h3], ?_, fun i y hi => ?_⟩
  · rw [List.nodup_append]
    refine ⟨h4, by simp, fun a ha b hb => ?_⟩
    obtain rfl := List.mem_singleton.1 hb
    have := (hmem a ha).2
    omega
  · by_cases hlt : i < l.length
    · rw [List.getElem?_append_left hlt] at hi
      obtain ⟨g', c', e1, e2, e3⟩ := h5 i y hi
      exact ⟨g', c', by rw [List.getElem?_append_left (by omega)]; exact e1, by rw [List.getElem?_append_left (by omega)]; exact e2, keep (e3.below hw)⟩
    · rw [List.getElem?_append_right (by omega)] at hi
      have hi0 : i - l.length = 0 := by
        rcases Nat.eq_zero_or_pos (i - l.length) with h0 | h0
        · exact h0
        · rw [List.getElem?_eq_none (by simp; omega)] at hi; simp at hi
      rw [hi0] at hi
      simp at hi
      subst hi
      exact ⟨g, c, by rw [List.getElem?_append_right (by omega)]; simp [h2, hi0], by rw [List.getElem?_append_right (by omega)]; simp [h3, hi0], keep hu⟩
end
/-- Rows that literals make. -/
theorem SlSl.lit {enc : Int → List Value} (w : World) (e : TypeId) (cs : Array Value) (l : List (List Int)) (hl : cs.toList.length = l.length) (hm : l.length ≤ 1000000)
    (hr : ∀ (i : Nat) (x : List Int), l[i]? = some x → ∃ u, cs.toList[i]? = some u ∧ Sl enc w w.heap.size u x) :
    SlSl enc (w.alloc (.cells cs e)) (w.alloc (.cells cs e)).heap.size (.slice (some ⟨w.heap.size, 0, none⟩) l.length l.length) l := by
  refine ⟨_, _, cs.toList, rfl, by omega, hl, fun _ => ⟨okA_some _ _, by simp [ablk], fun j v hj => ?_⟩, fun i x hi => ?_⟩
  · show (w.alloc (.cells cs e)).cell? ⟨w.heap.size, 0 + j, none⟩ = some v
    rw [Nat.zero_add, World.cell?_alloc_new]
    simpa using hj
  · obtain ⟨u, hu, hs⟩ := hr i x hi
    exact ⟨u, hu, hs.up ((Below.refl _ _).alloc (Nat.le_refl _) _) (by simp)⟩

end Wh
