/- Texts of the claim, joined: PlainF, WalkA, WalkB, LibIdx, WalkC. -/
import Derived.Test.YtfhfkijmebhgmaaGreatChecked
import Derived.Test.YtfhfkijmebhgmaaGreatQ03
import Derived.Test.YtfhfkijmebhgmaaGreatQ01
import Derived.Test.YtfhfkijmebhgmaaGreatQ02
namespace Wh

theorem ok_len72 {l : List Hold} (h : holdsOk l = true) : l.length ≤ 72 := by
  have hr := (holdsOk_iff.1 h).2
  have hf := (holdsOk_iff.1 h).1
  have hp : ∀ x ∈ l, 0 ≤ place x ∧ place x < 72 := fun x hx => by
    have := (fine_iff.1 (hf x hx)).1
    unfold keyOk at this
    unfold place
    omega
  have hn : (l.map fun x => (place x).toNat).Nodup := by
    rw [List.Nodup, List.pairwise_map]
    refine List.Pairwise.imp_of_mem ?_ hr
    intro a b ha hb hab
    have h1 := hp a ha
    have h2 := hp b hb
    omega
  have hs : (l.map fun x => (place x).toNat) ⊆ List.range 72 := fun n hn' => by
    obtain ⟨x, hx, rfl⟩ := List.mem_map.1 hn'
    have := hp x hx
    exact List.mem_range.2 (by omega)
  have := hn.length_le_of_subset hs
  simpa using this
/-- A state that is as it must be, but maybe for the sums. -/
structure Sane (p : Plan) (s : State) : Prop where
  shelf : checkShelf p s.on = 0
  many : manyOk s = true
  form : formed p s = true

theorem all_at {α : Type} {P : α → Bool} {l : List α} (d : α) (h : l.all P = true) {k : Nat} (hk : k < l.length) : P (l.getD k d) = true := by
  have e : l.getD k d = l[k] := by simp [hk]
  rw [e]
  exact List.all_eq_true.1 h _ (List.getElem_mem hk)
theorem all_of {α : Type} {P : α → Bool} {l : List α} (d : α) (h : ∀ k, k < l.length → P (l.getD k d) = true) : l.all P = true := by
  rw [List.all_eq_true]
  intro x hx
  obtain ⟨k, hk, rfl⟩ := List.getElem_of_mem hx
  have := h k hk
  have e : l.getD k d = l[k] := by simp [hk]
  rwa [e] at this
theorem all_no {α : Type} {P : α → Bool} {l : List α} (d : α) {k : Nat} (hk : k < l.length) (h : P (l.getD k d) = false) : l.all P = false := by
  cases ha : l.all P
  · rfl
  · rw [all_at d ha hk] at h; cases h
theorem any_not {α : Type} (P : α → Bool) (l : List α) : (l.any fun x => !P x) = !(l.all P) := by
  induction l with
  | nil => rfl
  | cons x l ih => rw [List.any_cons, List.all_cons, ih, Bool.not_and]

theorem manyOk_iff {s : State} : manyOk s = true ↔ s.orders.length ≤ 4 ∧ s.moves.length ≤ 8 ∧ s.orders.all (fun o => within o.lines.length 1 3) = true := by
  unfold manyOk
  simp only [Bool.and_eq_true, decide_eq_true_eq, and_assoc]
theorem formed_iff {p : Plan} {s : State} : formed p s = true ↔ s.orders.all (orderOk p) = true ∧ holdsOk s.holds = true ∧ s.holds.all (holdIn p s) = true ∧ s.moves.all (moveOk p) = true ∧
    sumsOk p s.inn 0 = true ∧ sumsOk p s.out 0 = true ∧ sumsOk p s.fixed (-1048576) = true := by
  unfold formed
  simp only [Bool.and_eq_true, and_assoc]

theorem lineOk_iff {p : Plan} {x : Line} : lineOk p x = true ↔ (0 ≤ x.good ∧ x.good < p.sizes.length) ∧ (1 ≤ x.want ∧ x.want ≤ 200) ∧ (0 ≤ x.got ∧ x.got ≤ x.want) ∧ (0 ≤ x.back ∧ x.back ≤ x.want) := by
  unfold lineOk
  simp only [Bool.and_eq_true, within_iff, isGood_iff, and_assoc]
theorem moveOk_iff {p : Plan} {x : Move} : moveOk p x = true ↔ (0 ≤ x.good ∧ x.good < p.sizes.length) ∧ (0 ≤ x.src ∧ x.src < p.bins.length) ∧ (0 ≤ x.dst ∧ x.dst < p.bins.length) ∧ x.src ≠ x.dst ∧ 1 ≤ x.n ∧ x.n ≤ 200 := by
  unfold moveOk
  simp only [Bool.and_eq_true, within_iff, isGood_iff, isBin_iff, and_assoc, decide_eq_true_eq]
theorem orderOk_iff {p : Plan} {o : Order} : orderOk p o = true ↔ (0 ≤ o.kind ∧ o.kind ≤ 2) ∧ o.lines.all (lineOk p) = true := by
  unfold orderOk
  simp only [Bool.and_eq_true, within_iff]
theorem sumsOk_iff {p : Plan} {l : List Int} {lo : Int} : sumsOk p l lo = true ↔ l.length = p.sizes.length ∧ l.all (within · lo 1048576) = true := by
  unfold sumsOk
  simp only [Bool.and_eq_true, decide_eq_true_eq]
theorem holdIn_iff {p : Plan} {s : State} {h : Hold} : holdIn p s h = true ↔ h.order < s.orders.length ∧ h.line < (s.order h.order.toNat).lines.length ∧ h.bin < p.bins.length := by
  unfold holdIn
  simp only [Bool.and_eq_true, decide_eq_true_eq, and_assoc]

namespace Sane
variable {p : Plan} {s : State} (h : Sane p s)
include h
theorem plan : checkPlan p = 0 := (checkShelf_zero.1 h.shelf).1
theorem orders4 : s.orders.length ≤ 4 := (manyOk_iff.1 h.many).1
theorem moves8 : s.moves.length ≤ 8 := (manyOk_iff.1 h.many).2.1
theorem lines3 {o : Nat} (ho : o < s.orders.length) : 1 ≤ (s.order o).lines.length ∧ (s.order o).lines.length ≤ 3 := by
  have := all_at dOrder (manyOk_iff.1 h.many).2.2 ho
  have := within_iff.1 this
  unfold State.order orderAt
  omega
theorem orderOk {o : Nat} (ho : o < s.orders.length) : Wh.orderOk p (s.order o) = true := all_at dOrder (formed_iff.1 h.form).1 ho
theorem kind {o : Nat} (ho : o < s.orders.length) : 0 ≤ (s.order o).kind ∧ (s.order o).kind ≤ 2 := (orderOk_iff.1 (h.orderOk ho)).1
theorem line {o k : Nat} (ho : o < s.orders.length) (hk : k < (s.order o).lines.length) :
    (0 ≤ (s.line o k).good ∧ (s.line o k).good < p.sizes.length) ∧ (1 ≤ (s.line o k).want ∧ (s.line o k).want ≤ 200) ∧ (0 ≤ (s.line o k).got ∧ (s.line o k).got ≤ (s.line o k).want) ∧ (0 ≤ (s.line o k).back ∧ (s.line o k).back ≤ (s.line o k).want) :=
  lineOk_iff.1 (all_at dLine (orderOk_iff.1 (h.orderOk ho)).2 hk)
theorem holds : holdsOk s.holds = true := (formed_iff.1 h.form).2.1
theorem holdAt {k : Nat} (hk : k < s.holds.length) : (0 ≤ (hold s.holds k).order ∧ (hold s.holds k).order < s.orders.length) ∧ (0 ≤ (hold s.holds k).line ∧ (hold s.holds k).line < (s.order (hold s.holds k).order.toNat).lines.length) ∧
    (0 ≤ (hold s.holds k).bin ∧ (hold s.holds k).bin < p.bins.length) ∧ (1 ≤ (hold s.holds k).n ∧ (hold s.holds k).n ≤ 200) := by
  have h1 := ok_key h.holds hk
  have h2 := ok_n h.holds hk
  have h3 := holdIn_iff.1 (all_at dHold (formed_iff.1 h.form).2.2.1 hk)
  unfold keyOk at h1
  change (hold s.holds k).order < _ ∧ _ at h3
  obtain ⟨a, b, c⟩ := h3
  exact ⟨⟨h1.1.1, a⟩, ⟨h1.2.1.1, b⟩, ⟨h1.2.2.1, c⟩, h2⟩
theorem moveAt {k : Nat} (hk : k < s.moves.length) : (0 ≤ (moveAt s.moves k).good ∧ (moveAt s.moves k).good < p.sizes.length) ∧ (0 ≤ (Wh.moveAt s.moves k).src ∧ (Wh.moveAt s.moves k).src < p.bins.length) ∧
    (0 ≤ (Wh.moveAt s.moves k).dst ∧ (Wh.moveAt s.moves k).dst < p.bins.length) ∧ (Wh.moveAt s.moves k).src ≠ (Wh.moveAt s.moves k).dst ∧ 1 ≤ (Wh.moveAt s.moves k).n ∧ (Wh.moveAt s.moves k).n ≤ 200 :=
  moveOk_iff.1 (all_at dMove (formed_iff.1 h.form).2.2.2.1 hk)
theorem inn : s.inn.length = p.sizes.length ∧ ∀ {g}, g < p.sizes.length → 0 ≤ intAt s.inn g ∧ intAt s.inn g ≤ 1048576 := by
  obtain ⟨h1, h2⟩ := sumsOk_iff.1 (formed_iff.1 h.form).2.2.2.2.1
  exact ⟨h1, fun hg => within_iff.1 (all_at 0 h2 (by omega))⟩
theorem out : s.out.length = p.sizes.length ∧ ∀ {g}, g < p.sizes.length → 0 ≤ intAt s.out g ∧ intAt s.out g ≤ 1048576 := by
  obtain ⟨h1, h2⟩ := sumsOk_iff.1 (formed_iff.1 h.form).2.2.2.2.2.1
  exact ⟨h1, fun hg => within_iff.1 (all_at 0 h2 (by omega))⟩
theorem fixed : s.fixed.length = p.sizes.length ∧ ∀ {g}, g < p.sizes.length → -1048576 ≤ intAt s.fixed g ∧ intAt s.fixed g ≤ 1048576 := by
  obtain ⟨h1, h2⟩ := sumsOk_iff.1 (formed_iff.1 h.form).2.2.2.2.2.2
  exact ⟨h1, fun hg => within_iff.1 (all_at 0 h2 (by omega))⟩
theorem onLen : s.on.length = p.bins.length := right_len h.shelf
theorem rowLen {b : Nat} (hb : b < p.bins.length) : (rowAt s.on b).length = p.sizes.length := right_row h.shelf (by rw [h.onLen]; exact hb)
theorem cell {b g : Nat} (hb : b < p.bins.length) (hg : g < p.sizes.length) : 0 ≤ cell s.on b g ∧ Wh.cell s.on b g ≤ 200 := right_cell h.shelf (by rw [h.onLen]; exact hb) hg
theorem counts : 1 ≤ p.bins.length ∧ p.bins.length ≤ 6 ∧ 1 ≤ p.sizes.length ∧ p.sizes.length ≤ 3 := right_counts h.plan
end Sane

theorem checkState_shelf {p : Plan} {s : State} (h : checkShelf p s.on ≠ 0) : checkState p s = checkShelf p s.on := by unfold checkState; rw [if_pos h]
theorem checkState_many {p : Plan} {s : State} (h : checkShelf p s.on = 0) (h2 : manyOk s = false) : checkState p s = 2 := by
  unfold checkState
  rw [if_neg (fun hn => hn h), h2]; rfl
theorem checkState_form {p : Plan} {s : State} (h : checkShelf p s.on = 0) (h2 : manyOk s = true) (h3 : formed p s = false) : checkState p s = 1 := by
  unfold checkState
  rw [if_neg (fun hn => hn h), h2, h3]; rfl
theorem checkState_sum {p : Plan} {s : State} (h : Sane p s) (h4 : summed p s = false) : checkState p s = 7 := by
  unfold checkState
  rw [if_neg (fun hn => hn h.shelf), h.many, h.form, h4]; rfl
theorem checkState_ok {p : Plan} {s : State} (h : Sane p s) (h4 : summed p s = true) : checkState p s = 0 := by
  unfold checkState
  rw [if_neg (fun hn => hn h.shelf), h.many, h.form, h4]; rfl
theorem checkState_zero {p : Plan} {s : State} : checkState p s = 0 ↔ Sane p s ∧ summed p s = true := by
  constructor
  · intro h
    unfold checkState at h
    split at h
    · rename_i h1; exact absurd h h1
    · rename_i h1
      cases h2 : manyOk s
      · rw [h2] at h; simp at h
      · cases h3 : formed p s
        · rw [h2, h3] at h; simp at h
        · cases h4 : summed p s
          · rw [h2, h3, h4] at h; simp at h
          · exact ⟨⟨by simpa using h1, h2, h3⟩, rfl⟩
  · rintro ⟨h, h4⟩
    exact checkState_ok h h4

-- sums over what was seen so far
def heldTo (s : State) (b g : Int) (k : Nat) : Int := ((s.holds.take k).map (heldN s b g)).sum
def goingTo (l : List Move) (b g : Int) (k : Nat) : Int := ((l.take k).map (fromN b g)).sum
def comingTo (l : List Move) (b g : Int) (k : Nat) : Int := ((l.take k).map (toN b g)).sum
theorem sum_take {α : Type} (f : α → Int) (l : List α) (d : α) {k : Nat} (hk : k < l.length) : ((l.take (k + 1)).map f).sum = ((l.take k).map f).sum + f (l.getD k d) := by
  rw [List.take_succ_eq_append_getElem hk, List.map_append, List.sum_append]
  simp [hk]
theorem heldTo_succ {s : State} {b g : Int} {k : Nat} (hk : k < s.holds.length) : heldTo s b g (k + 1) = heldTo s b g k + heldN s b g (hold s.holds k) := sum_take _ _ dHold hk
theorem goingTo_succ {l : List Move} {b g : Int} {k : Nat} (hk : k < l.length) : goingTo l b g (k + 1) = goingTo l b g k + fromN b g (moveAt l k) := sum_take _ _ dMove hk
theorem comingTo_succ {l : List Move} {b g : Int} {k : Nat} (hk : k < l.length) : comingTo l b g (k + 1) = comingTo l b g k + toN b g (moveAt l k) := sum_take _ _ dMove hk
theorem heldTo_all (s : State) (b g : Int) : heldTo s b g s.holds.length = heldIn s b g := by unfold heldTo heldIn; rw [List.take_length]
theorem goingTo_all (l : List Move) (b g : Int) : goingTo l b g l.length = goingOf l b g := by unfold goingTo goingOf; rw [List.take_length]
theorem comingTo_all (l : List Move) (b g : Int) : comingTo l b g l.length = comingOf l b g := by unfold comingTo comingOf; rw [List.take_length]
theorem list_sum_range {l : List Int} {m : Int} (h : ∀ x ∈ l, 0 ≤ x ∧ x ≤ m) : 0 ≤ l.sum ∧ l.sum ≤ l.length * m := by
  induction l with
  | nil => simp
  | cons x l ih =>
    have h1 := h x (by simp)
    have h2 := ih (fun y hy => h y (by simp [hy]))
    rw [List.sum_cons, List.length_cons, Int.natCast_add, Int.add_mul]
    omega
theorem heldTo_range {p : Plan} {s : State} (h : Sane p s) (b g : Int) (k : Nat) : 0 ≤ heldTo s b g k ∧ heldTo s b g k ≤ 14400 := by
  have h72 := ok_len72 h.holds
  have hr := list_sum_range (l := (s.holds.take k).map (heldN s b g)) (m := 200) (fun x hx => by
    obtain ⟨y, hy, rfl⟩ := List.mem_map.1 hx
    obtain ⟨i, hi, rfl⟩ := List.getElem_of_mem (List.mem_of_mem_take hy)
    have := ok_n h.holds hi
    rw [hold_get hi] at this
    unfold heldN
    split <;> omega)
  rw [List.length_map, List.length_take] at hr
  unfold heldTo
  omega
theorem goingTo_range {p : Plan} {s : State} (h : Sane p s) (b g : Int) (k : Nat) : 0 ≤ goingTo s.moves b g k ∧ goingTo s.moves b g k ≤ 1600 := by
  have h8 := h.moves8
  have hr := list_sum_range (l := (s.moves.take k).map (fromN b g)) (m := 200) (fun x hx => by
    obtain ⟨y, hy, rfl⟩ := List.mem_map.1 hx
    obtain ⟨i, hi, rfl⟩ := List.getElem_of_mem (List.mem_of_mem_take hy)
    have := h.moveAt hi
    rw [Wh.moveAt_eq hi] at this
    unfold fromN
    split <;> omega)
  rw [List.length_map, List.length_take] at hr
  unfold goingTo
  omega
theorem comingTo_range {p : Plan} {s : State} (h : Sane p s) (b g : Int) (k : Nat) : 0 ≤ comingTo s.moves b g k ∧ comingTo s.moves b g k ≤ 1600 := by
  have h8 := h.moves8
  have hr := list_sum_range (l := (s.moves.take k).map (toN b g)) (m := 200) (fun x hx => by
    obtain ⟨y, hy, rfl⟩ := List.mem_map.1 hx
    obtain ⟨i, hi, rfl⟩ := List.getElem_of_mem (List.mem_of_mem_take hy)
    have := h.moveAt hi
    rw [Wh.moveAt_eq hi] at this
    unfold toN
    split <;> omega)
  rw [List.length_map, List.length_take] at hr
  unfold comingTo
  omega
theorem bound_range {p : Plan} {s : State} (h : Sane p s) (b g : Int) : 0 ≤ bound s b g ∧ bound s b g ≤ 16000 := by
  have h1 := heldTo_range h b g s.holds.length
  have h2 := goingTo_range h b g s.moves.length
  rw [heldTo_all] at h1
  rw [goingTo_all] at h2
  unfold bound
  omega
theorem coming_range {p : Plan} {s : State} (h : Sane p s) (b g : Int) : 0 ≤ coming s b g ∧ coming s b g ≤ 1600 := by
  have h2 := comingTo_range h b g s.moves.length
  rw [comingTo_all] at h2
  exact h2
end Wh
namespace Wh
open Go Go.RowKit Go.Shelf Go.Proofs
attribute [local go_sem] run_indexAt_letter

set_option maxHeartbeats 400000 in
theorem rWithin (n lo hi : Int) (w : World) :
    Calls Tryz.prog 38 #[.int .i64 n, .int .i64 lo, .int .i64 hi] w fun e w' => e = .returned (.bool (within n lo hi)) ∧ w = w' := by
  go_enter Tryz.func38, Tryz.ntmps38
  by_cases h1 : lo ≤ n
  · by_cases h2 : n ≤ hi
    · go_wp2
      go_ret
      exact ⟨by simp [within, h1, h2], rfl⟩
    · go_wp2
      go_ret
      exact ⟨by simp [within]; omega, rfl⟩
  · go_wp2
    go_ret
    exact ⟨by simp [within]; omega, rfl⟩

end Wh
namespace Wh
open Go Go.RowKit Go.Shelf Go.Proofs
attribute [local go_sem] run_indexAt_letter

set_option maxHeartbeats 1000000 in
theorem slMin (w : World) (v : Value) (l : List Int) (hv : Sl cInt w w.heap.size v l) (hn : 0 < l.length) :
    Calls Tryz.prog 128 #[v] w fun e w' => e = .returned (.int .i64 (lowest l)) ∧ w = w' := by
  obtain ⟨A, c, rfl, hl, hA⟩ := hv
  obtain ⟨hok, hAb, b0⟩ := hA.int hn
  have hn' : 1 ≤ l.length := hn
  simp only [Nat.add_zero] at b0
  go_enter Tryz.func128, Tryz.ntmps128
  go_wp2_with fail
  go_loop [3, 4] (fun m i => ∃ k : Nat, k + 1 ≤ l.length ∧ i = .int .i64 (k + 1 : Nat) ∧ m = .int .i64 (minTo (intAt l) k)) (fun _ i => l.length - (intOf i).toNat)
  case atStart => exact ⟨0, hn', rfl, rfl⟩
  case round =>
    obtain ⟨k, hk, rfl, rfl⟩ := hrel
    by_cases hlt : k + 1 < l.length
    · obtain ⟨_, _, b1⟩ := hA.int hlt
      go_wp2_with fail
      go_round
      case rel => exact ⟨k + 1, by omega, by go_num, by rw [minTo]; congr 1; split <;> omega⟩
      case measure => simp [intOf]; omega
    · obtain rfl : k = l.length - 1 := by omega
      go_wp2_with fail
      go_ret
      exact ⟨rfl, rfl⟩
set_option maxHeartbeats 1000000 in
theorem slMax (w : World) (v : Value) (l : List Int) (hv : Sl cInt w w.heap.size v l) (hn : 0 < l.length) :
    Calls Tryz.prog 129 #[v] w fun e w' => e = .returned (.int .i64 (greatest l)) ∧ w = w' := by
  obtain ⟨A, c, rfl, hl, hA⟩ := hv
  obtain ⟨hok, hAb, b0⟩ := hA.int hn
  have hn' : 1 ≤ l.length := hn
  simp only [Nat.add_zero] at b0
  go_enter Tryz.func129, Tryz.ntmps129
  go_wp2_with fail
  go_loop [3, 4] (fun m i => ∃ k : Nat, k + 1 ≤ l.length ∧ i = .int .i64 (k + 1 : Nat) ∧ m = .int .i64 (maxTo (intAt l) k)) (fun _ i => l.length - (intOf i).toNat)
  case atStart => exact ⟨0, hn', rfl, rfl⟩
  case round =>
    obtain ⟨k, hk, rfl, rfl⟩ := hrel
    by_cases hlt : k + 1 < l.length
    · obtain ⟨_, _, b1⟩ := hA.int hlt
      go_wp2_with fail
      go_round
      case rel => exact ⟨k + 1, by omega, by go_num, by rw [maxTo]; congr 1; split <;> omega⟩
      case measure => simp [intOf]; omega
    · obtain rfl : k = l.length - 1 := by omega
      go_wp2_with fail
      go_ret
      exact ⟨rfl, rfl⟩
end Wh
namespace Wh
open Go Go.RowKit Go.Shelf Go.Proofs
attribute [local go_sem] run_indexAt_letter

set_option maxHeartbeats 1000000 in
theorem indexFuncBin (w : World) (v : Value) (l : List Bin) (g : FuncId) (lb : Array Value) (pred : Bin → Bool) (eg : Enters Tryz.prog g) (hv : Sl cBin w w.heap.size v l)
    (hf : ∀ k, k < l.length → ∀ W, Below w.heap.size w W → Calls Tryz.prog g (#[vBin (binAt l k)] ++ lb) W fun e W' => e = .returned (.bool (pred (binAt l k))) ∧ Below W.heap.size W W') :
    Calls Tryz.prog 168 #[v, .func (.func g) #[] lb] w fun e w' => e = .returned (.int .i64 (idxOf pred l)) ∧ Below w.heap.size w w' := by
  obtain ⟨A, c, rfl, hl, hA⟩ := hv
  have eg' : ∀ args w, Sem.run Tryz.prog (callFunc g args) w = .ok (.enter g args) w := eg
  go_enter Tryz.func168, Tryz.ntmps168
  go_wp2_with fail
  go_loopw [5, 8] (fun _ i wr => ∃ k : Nat, k ≤ l.length ∧ i = .int .i64 k ∧ (∀ j, j < k → pred (binAt l j) = false) ∧ Below w.heap.size w wr) (fun _ i _ => l.length - (intOf i).toNat)
  case atStart => exact ⟨0, Nat.zero_le _, rfl, fun j hj => by omega, Below.refl _ _⟩
  case round =>
    obtain ⟨k, hk, rfl, hall, hbw⟩ := hrel
    have hal : ∀ j (hj : j < k), pred (l[j]'(by omega)) = false := fun j hj => by have := hall j hj; rwa [binAt_eq (by omega)] at this
    by_cases hlt : k < l.length
    · obtain ⟨hok, hAb, b0, b1, b2, b3⟩ := (hA.up hbw hbw.size).bin hlt
      go_wp2_with fail
      refine (hf k hlt _ hbw).mono ?_
      rintro e W1 ⟨rfl, hb1⟩
      have hbw1 := hbw.trans (hb1.mono hbw.size)
      cases hp : pred (binAt l k)
      · go_wp2_with fail
        go_roundw
        case rel =>
          refine ⟨k + 1, by omega, by go_num, fun j hj => ?_, hbw1⟩
          rcases Nat.lt_succ_iff_lt_or_eq.1 hj with h | rfl
          · exact hall j h
          · exact hp
        case measure => simp [intOf]; omega
      · go_wp2_with fail
        go_ret
        exact ⟨ret_int (idxOf_at hlt (by rw [binAt_eq hlt] at hp; exact hp) hal), hbw1⟩
    · obtain rfl : k = l.length := by omega
      go_wp2_with fail
      go_ret
      exact ⟨ret_int (idxOf_none fun j hj => by have := hall j hj; rwa [binAt_eq hj] at this), hbw⟩
set_option maxHeartbeats 400000 in
theorem containsFuncBin (w : World) (v : Value) (l : List Bin) (g : FuncId) (lb : Array Value) (pred : Bin → Bool) (eg : Enters Tryz.prog g) (hv : Sl cBin w w.heap.size v l)
    (hf : ∀ k, k < l.length → ∀ W, Below w.heap.size w W → Calls Tryz.prog g (#[vBin (binAt l k)] ++ lb) W fun e W' => e = .returned (.bool (pred (binAt l k))) ∧ Below W.heap.size W W') :
    Calls Tryz.prog 148 #[v, .func (.func g) #[] lb] w fun e w' => e = .returned (.bool (l.any pred)) ∧ Below w.heap.size w w' := by
  have H := Lib.hid (indexFuncBin w v l g lb pred eg hv hf)
  clear hf
  go_enter Tryz.func148, Tryz.ntmps148
  go_wp2_with fail
  refine H.out.mono ?_
  rintro e W1 ⟨rfl, hb1⟩
  go_wp2_with fail
  go_ret
  exact ⟨ret_bool (idxOf_any pred l), hb1⟩

set_option maxHeartbeats 1000000 in
theorem indexFuncLine (w : World) (v : Value) (l : List Line) (g : FuncId) (lb : Array Value) (pred : Line → Bool) (eg : Enters Tryz.prog g) (hv : Sl cLine w w.heap.size v l)
    (hf : ∀ k, k < l.length → ∀ W, Below w.heap.size w W → Calls Tryz.prog g (#[vLine (lineAt l k)] ++ lb) W fun e W' => e = .returned (.bool (pred (lineAt l k))) ∧ Below W.heap.size W W') :
    Calls Tryz.prog 152 #[v, .func (.func g) #[] lb] w fun e w' => e = .returned (.int .i64 (idxOf pred l)) ∧ Below w.heap.size w w' := by
  obtain ⟨A, c, rfl, hl, hA⟩ := hv
  have eg' : ∀ args w, Sem.run Tryz.prog (callFunc g args) w = .ok (.enter g args) w := eg
  go_enter Tryz.func152, Tryz.ntmps152
  go_wp2_with fail
  go_loopw [5, 8] (fun _ i wr => ∃ k : Nat, k ≤ l.length ∧ i = .int .i64 k ∧ (∀ j, j < k → pred (lineAt l j) = false) ∧ Below w.heap.size w wr) (fun _ i _ => l.length - (intOf i).toNat)
  case atStart => exact ⟨0, Nat.zero_le _, rfl, fun j hj => by omega, Below.refl _ _⟩
  case round =>
    obtain ⟨k, hk, rfl, hall, hbw⟩ := hrel
    have hal : ∀ j (hj : j < k), pred (l[j]'(by omega)) = false := fun j hj => by have := hall j hj; rwa [lineAt_eq (by omega)] at this
    by_cases hlt : k < l.length
    · obtain ⟨hok, hAb, b0, b1, b2, b3⟩ := (hA.up hbw hbw.size).line hlt
      go_wp2_with fail
      refine (hf k hlt _ hbw).mono ?_
      rintro e W1 ⟨rfl, hb1⟩
      have hbw1 := hbw.trans (hb1.mono hbw.size)
      cases hp : pred (lineAt l k)
      · go_wp2_with fail
        go_roundw
        case rel =>
          refine ⟨k + 1, by omega, by go_num, fun j hj => ?_, hbw1⟩
          rcases Nat.lt_succ_iff_lt_or_eq.1 hj with h | rfl
          · exact hall j h
          · exact hp
        case measure => simp [intOf]; omega
      · go_wp2_with fail
        go_ret
        exact ⟨ret_int (idxOf_at hlt (by rw [lineAt_eq hlt] at hp; exact hp) hal), hbw1⟩
    · obtain rfl : k = l.length := by omega
      go_wp2_with fail
      go_ret
      exact ⟨ret_int (idxOf_none fun j hj => by have := hall j hj; rwa [lineAt_eq hj] at this), hbw⟩
set_option maxHeartbeats 400000 in
theorem containsFuncLine (w : World) (v : Value) (l : List Line) (g : FuncId) (lb : Array Value) (pred : Line → Bool) (eg : Enters Tryz.prog g) (hv : Sl cLine w w.heap.size v l)
    (hf : ∀ k, k < l.length → ∀ W, Below w.heap.size w W → Calls Tryz.prog g (#[vLine (lineAt l k)] ++ lb) W fun e W' => e = .returned (.bool (pred (lineAt l k))) ∧ Below W.heap.size W W') :
    Calls Tryz.prog 95 #[v, .func (.func g) #[] lb] w fun e w' => e = .returned (.bool (l.any pred)) ∧ Below w.heap.size w w' := by
  have H := Lib.hid (indexFuncLine w v l g lb pred eg hv hf)
  clear hf
  go_enter Tryz.func95, Tryz.ntmps95
  go_wp2_with fail
  refine H.out.mono ?_
  rintro e W1 ⟨rfl, hb1⟩
  go_wp2_with fail
  go_ret
  exact ⟨ret_bool (idxOf_any pred l), hb1⟩

set_option maxHeartbeats 1000000 in
theorem indexFuncHold (w : World) (v : Value) (l : List Hold) (g : FuncId) (lb : Array Value) (pred : Hold → Bool) (eg : Enters Tryz.prog g) (hv : Sl cHold w w.heap.size v l)
    (hf : ∀ k, k < l.length → ∀ W, Below w.heap.size w W → Calls Tryz.prog g (#[vHold (hold l k)] ++ lb) W fun e W' => e = .returned (.bool (pred (hold l k))) ∧ Below W.heap.size W W') :
    Calls Tryz.prog 153 #[v, .func (.func g) #[] lb] w fun e w' => e = .returned (.int .i64 (idxOf pred l)) ∧ Below w.heap.size w w' := by
  obtain ⟨A, c, rfl, hl, hA⟩ := hv
  have eg' : ∀ args w, Sem.run Tryz.prog (callFunc g args) w = .ok (.enter g args) w := eg
  go_enter Tryz.func153, Tryz.ntmps153
  go_wp2_with fail
  go_loopw [5, 8] (fun _ i wr => ∃ k : Nat, k ≤ l.length ∧ i = .int .i64 k ∧ (∀ j, j < k → pred (hold l j) = false) ∧ Below w.heap.size w wr) (fun _ i _ => l.length - (intOf i).toNat)
  case atStart => exact ⟨0, Nat.zero_le _, rfl, fun j hj => by omega, Below.refl _ _⟩
  case round =>
    obtain ⟨k, hk, rfl, hall, hbw⟩ := hrel
    have hal : ∀ j (hj : j < k), pred (l[j]'(by omega)) = false := fun j hj => by have := hall j hj; rwa [hold_get (by omega)] at this
    by_cases hlt : k < l.length
    · obtain ⟨hok, hAb, b0, b1, b2, b3⟩ := (hA.up hbw hbw.size).hold hlt
      go_wp2_with fail
      refine (hf k hlt _ hbw).mono ?_
      rintro e W1 ⟨rfl, hb1⟩
      have hbw1 := hbw.trans (hb1.mono hbw.size)
      cases hp : pred (hold l k)
      · go_wp2_with fail
        go_roundw
        case rel =>
          refine ⟨k + 1, by omega, by go_num, fun j hj => ?_, hbw1⟩
          rcases Nat.lt_succ_iff_lt_or_eq.1 hj with h | rfl
          · exact hall j h
          · exact hp
        case measure => simp [intOf]; omega
      · go_wp2_with fail
        go_ret
        exact ⟨ret_int (idxOf_at hlt (by rw [hold_get hlt] at hp; exact hp) hal), hbw1⟩
    · obtain rfl : k = l.length := by omega
      go_wp2_with fail
      go_ret
      exact ⟨ret_int (idxOf_none fun j hj => by have := hall j hj; rwa [hold_get hj] at this), hbw⟩
set_option maxHeartbeats 400000 in
theorem containsFuncHold (w : World) (v : Value) (l : List Hold) (g : FuncId) (lb : Array Value) (pred : Hold → Bool) (eg : Enters Tryz.prog g) (hv : Sl cHold w w.heap.size v l)
    (hf : ∀ k, k < l.length → ∀ W, Below w.heap.size w W → Calls Tryz.prog g (#[vHold (hold l k)] ++ lb) W fun e W' => e = .returned (.bool (pred (hold l k))) ∧ Below W.heap.size W W') :
    Calls Tryz.prog 137 #[v, .func (.func g) #[] lb] w fun e w' => e = .returned (.bool (l.any pred)) ∧ Below w.heap.size w w' := by
  have H := Lib.hid (indexFuncHold w v l g lb pred eg hv hf)
  clear hf
  go_enter Tryz.func137, Tryz.ntmps137
  go_wp2_with fail
  refine H.out.mono ?_
  rintro e W1 ⟨rfl, hb1⟩
  go_wp2_with fail
  go_ret
  exact ⟨ret_bool (idxOf_any pred l), hb1⟩

set_option maxHeartbeats 1000000 in
theorem indexFuncMove (w : World) (v : Value) (l : List Move) (g : FuncId) (lb : Array Value) (pred : Move → Bool) (eg : Enters Tryz.prog g) (hv : Sl cMove w w.heap.size v l)
    (hf : ∀ k, k < l.length → ∀ W, Below w.heap.size w W → Calls Tryz.prog g (#[vMove (moveAt l k)] ++ lb) W fun e W' => e = .returned (.bool (pred (moveAt l k))) ∧ Below W.heap.size W W') :
    Calls Tryz.prog 159 #[v, .func (.func g) #[] lb] w fun e w' => e = .returned (.int .i64 (idxOf pred l)) ∧ Below w.heap.size w w' := by
  obtain ⟨A, c, rfl, hl, hA⟩ := hv
  have eg' : ∀ args w, Sem.run Tryz.prog (callFunc g args) w = .ok (.enter g args) w := eg
  go_enter Tryz.func159, Tryz.ntmps159
  go_wp2_with fail
  go_loopw [5, 8] (fun _ i wr => ∃ k : Nat, k ≤ l.length ∧ i = .int .i64 k ∧ (∀ j, j < k → pred (moveAt l j) = false) ∧ Below w.heap.size w wr) (fun _ i _ => l.length - (intOf i).toNat)
  case atStart => exact ⟨0, Nat.zero_le _, rfl, fun j hj => by omega, Below.refl _ _⟩
  case round =>
    obtain ⟨k, hk, rfl, hall, hbw⟩ := hrel
    have hal : ∀ j (hj : j < k), pred (l[j]'(by omega)) = false := fun j hj => by have := hall j hj; rwa [moveAt_eq (by omega)] at this
    by_cases hlt : k < l.length
    · obtain ⟨hok, hAb, b0, b1, b2, b3⟩ := (hA.up hbw hbw.size).move hlt
      go_wp2_with fail
      refine (hf k hlt _ hbw).mono ?_
      rintro e W1 ⟨rfl, hb1⟩
      have hbw1 := hbw.trans (hb1.mono hbw.size)
      cases hp : pred (moveAt l k)
      · go_wp2_with fail
        go_roundw
        case rel =>
          refine ⟨k + 1, by omega, by go_num, fun j hj => ?_, hbw1⟩
          rcases Nat.lt_succ_iff_lt_or_eq.1 hj with h | rfl
          · exact hall j h
          · exact hp
        case measure => simp [intOf]; omega
      · go_wp2_with fail
        go_ret
        exact ⟨ret_int (idxOf_at hlt (by rw [moveAt_eq hlt] at hp; exact hp) hal), hbw1⟩
    · obtain rfl : k = l.length := by omega
      go_wp2_with fail
      go_ret
      exact ⟨ret_int (idxOf_none fun j hj => by have := hall j hj; rwa [moveAt_eq hj] at this), hbw⟩
set_option maxHeartbeats 400000 in
theorem containsFuncMove (w : World) (v : Value) (l : List Move) (g : FuncId) (lb : Array Value) (pred : Move → Bool) (eg : Enters Tryz.prog g) (hv : Sl cMove w w.heap.size v l)
    (hf : ∀ k, k < l.length → ∀ W, Below w.heap.size w W → Calls Tryz.prog g (#[vMove (moveAt l k)] ++ lb) W fun e W' => e = .returned (.bool (pred (moveAt l k))) ∧ Below W.heap.size W W') :
    Calls Tryz.prog 139 #[v, .func (.func g) #[] lb] w fun e w' => e = .returned (.bool (l.any pred)) ∧ Below w.heap.size w w' := by
  have H := Lib.hid (indexFuncMove w v l g lb pred eg hv hf)
  clear hf
  go_enter Tryz.func139, Tryz.ntmps139
  go_wp2_with fail
  refine H.out.mono ?_
  rintro e W1 ⟨rfl, hb1⟩
  go_wp2_with fail
  go_ret
  exact ⟨ret_bool (idxOf_any pred l), hb1⟩

set_option maxHeartbeats 1000000 in
theorem indexFuncRow (w : World) (v : Value) (l : List (List Int)) (g : FuncId) (lb : Array Value) (pred : (List Int) → Bool) (eg : Enters Tryz.prog g) (hv : SlSl cInt w w.heap.size v l)
    (hf : ∀ k, k < l.length → ∀ W, Below w.heap.size w W → ∀ u, Sl cInt W W.heap.size u (rowAt l k) → Calls Tryz.prog g (#[u] ++ lb) W fun e W' => e = .returned (.bool (pred (rowAt l k))) ∧ Below W.heap.size W W') :
    Calls Tryz.prog 166 #[v, .func (.func g) #[] lb] w fun e w' => e = .returned (.int .i64 (idxOf pred l)) ∧ Below w.heap.size w w' := by
  obtain ⟨A, c, vs, rfl, hl, hvl, hA, hrows⟩ := hv
  have eg' : ∀ args w, Sem.run Tryz.prog (callFunc g args) w = .ok (.enter g args) w := eg
  go_enter Tryz.func166, Tryz.ntmps166
  go_wp2_with fail
  go_loopw [5, 8] (fun _ i wr => ∃ k : Nat, k ≤ l.length ∧ i = .int .i64 k ∧ (∀ j, j < k → pred (rowAt l j) = false) ∧ Below w.heap.size w wr) (fun _ i _ => l.length - (intOf i).toNat)
  case atStart => exact ⟨0, Nat.zero_le _, rfl, fun j hj => by omega, Below.refl _ _⟩
  case round =>
    obtain ⟨k, hk, rfl, hall, hbw⟩ := hrel
    have hal : ∀ j (hj : j < k), pred (l[j]'(by omega)) = false := fun j hj => by have := hall j hj; rwa [rowAt_eq (by omega)] at this
    by_cases hlt : k < l.length
    · obtain ⟨A', c', hok, hAb, hcu, hsu⟩ := (show SlSl cInt wr wr.heap.size _ l from SlSl.up ⟨A, c, vs, rfl, hl, hvl, hA, hrows⟩ hbw hbw.size).row hlt
      go_wp2_with fail
      refine (hf k hlt _ hbw _ hsu).mono ?_
      rintro e W1 ⟨rfl, hb1⟩
      have hbw1 := hbw.trans (hb1.mono hbw.size)
      cases hp : pred (rowAt l k)
      · go_wp2_with fail
        go_roundw
        case rel =>
          refine ⟨k + 1, by omega, by go_num, fun j hj => ?_, hbw1⟩
          rcases Nat.lt_succ_iff_lt_or_eq.1 hj with h | rfl
          · exact hall j h
          · exact hp
        case measure => simp [intOf]; omega
      · go_wp2_with fail
        go_ret
        exact ⟨ret_int (idxOf_at hlt (by rw [rowAt_eq hlt] at hp; exact hp) hal), hbw1⟩
    · obtain rfl : k = l.length := by omega
      go_wp2_with fail
      go_ret
      exact ⟨ret_int (idxOf_none fun j hj => by have := hall j hj; rwa [rowAt_eq hj] at this), hbw⟩
set_option maxHeartbeats 400000 in
theorem containsFuncRow (w : World) (v : Value) (l : List (List Int)) (g : FuncId) (lb : Array Value) (pred : (List Int) → Bool) (eg : Enters Tryz.prog g) (hv : SlSl cInt w w.heap.size v l)
    (hf : ∀ k, k < l.length → ∀ W, Below w.heap.size w W → ∀ u, Sl cInt W W.heap.size u (rowAt l k) → Calls Tryz.prog g (#[u] ++ lb) W fun e W' => e = .returned (.bool (pred (rowAt l k))) ∧ Below W.heap.size W W') :
    Calls Tryz.prog 130 #[v, .func (.func g) #[] lb] w fun e w' => e = .returned (.bool (l.any pred)) ∧ Below w.heap.size w w' := by
  have H := Lib.hid (indexFuncRow w v l g lb pred eg hv hf)
  clear hf
  go_enter Tryz.func130, Tryz.ntmps130
  go_wp2_with fail
  refine H.out.mono ?_
  rintro e W1 ⟨rfl, hb1⟩
  go_wp2_with fail
  go_ret
  exact ⟨ret_bool (idxOf_any pred l), hb1⟩

set_option maxHeartbeats 1000000 in
theorem indexFuncOrder (w : World) (v : Value) (l : List Order) (g : FuncId) (lb : Array Value) (pred : Order → Bool) (eg : Enters Tryz.prog g) (hv : SlOrders w w.heap.size v l)
    (hf : ∀ k, k < l.length → ∀ W, Below w.heap.size w W → ∀ u, Sl cLine W W.heap.size u (orderAt l k).lines → Calls Tryz.prog g (#[.agg #[.int .i64 (orderAt l k).kind, u]] ++ lb) W fun e W' => e = .returned (.bool (pred (orderAt l k))) ∧ Below W.heap.size W W') :
    Calls Tryz.prog 131 #[v, .func (.func g) #[] lb] w fun e w' => e = .returned (.int .i64 (idxOf pred l)) ∧ Below w.heap.size w w' := by
  obtain ⟨A, c, vs, rfl, hl, hvl, hA, hrows⟩ := hv
  have eg' : ∀ args w, Sem.run Tryz.prog (callFunc g args) w = .ok (.enter g args) w := eg
  go_enter Tryz.func131, Tryz.ntmps131
  go_wp2_with fail
  go_loopw [5, 8] (fun _ i wr => ∃ k : Nat, k ≤ l.length ∧ i = .int .i64 k ∧ (∀ j, j < k → pred (orderAt l j) = false) ∧ Below w.heap.size w wr) (fun _ i _ => l.length - (intOf i).toNat)
  case atStart => exact ⟨0, Nat.zero_le _, rfl, fun j hj => by omega, Below.refl _ _⟩
  case round =>
    obtain ⟨k, hk, rfl, hall, hbw⟩ := hrel
    have hal : ∀ j (hj : j < k), pred (l[j]'(by omega)) = false := fun j hj => by have := hall j hj; rwa [orderAt_eq (by omega)] at this
    by_cases hlt : k < l.length
    · obtain ⟨A', c', hok, hAb, hc0, hcu, hsu⟩ := (show SlOrders wr wr.heap.size _ l from SlOrders.up ⟨A, c, vs, rfl, hl, hvl, hA, hrows⟩ hbw hbw.size).order hlt
      go_wp2_with fail
      refine (hf k hlt _ hbw _ hsu).mono ?_
      rintro e W1 ⟨rfl, hb1⟩
      have hbw1 := hbw.trans (hb1.mono hbw.size)
      cases hp : pred (orderAt l k)
      · go_wp2_with fail
        go_roundw
        case rel =>
          refine ⟨k + 1, by omega, by go_num, fun j hj => ?_, hbw1⟩
          rcases Nat.lt_succ_iff_lt_or_eq.1 hj with h | rfl
          · exact hall j h
          · exact hp
        case measure => simp [intOf]; omega
      · go_wp2_with fail
        go_ret
        exact ⟨ret_int (idxOf_at hlt (by rw [orderAt_eq hlt] at hp; exact hp) hal), hbw1⟩
    · obtain rfl : k = l.length := by omega
      go_wp2_with fail
      go_ret
      exact ⟨ret_int (idxOf_none fun j hj => by have := hall j hj; rwa [orderAt_eq hj] at this), hbw⟩
set_option maxHeartbeats 400000 in
theorem containsFuncOrder (w : World) (v : Value) (l : List Order) (g : FuncId) (lb : Array Value) (pred : Order → Bool) (eg : Enters Tryz.prog g) (hv : SlOrders w w.heap.size v l)
    (hf : ∀ k, k < l.length → ∀ W, Below w.heap.size w W → ∀ u, Sl cLine W W.heap.size u (orderAt l k).lines → Calls Tryz.prog g (#[.agg #[.int .i64 (orderAt l k).kind, u]] ++ lb) W fun e W' => e = .returned (.bool (pred (orderAt l k))) ∧ Below W.heap.size W W') :
    Calls Tryz.prog 76 #[v, .func (.func g) #[] lb] w fun e w' => e = .returned (.bool (l.any pred)) ∧ Below w.heap.size w w' := by
  have H := Lib.hid (indexFuncOrder w v l g lb pred eg hv hf)
  clear hf
  go_enter Tryz.func76, Tryz.ntmps76
  go_wp2_with fail
  refine H.out.mono ?_
  rintro e W1 ⟨rfl, hb1⟩
  go_wp2_with fail
  go_ret
  exact ⟨ret_bool (idxOf_any pred l), hb1⟩

end Wh
namespace Wh
open Go Go.RowKit Go.Shelf Go.Proofs
attribute [local go_sem] run_indexAt_letter

theorem infoInt : Elem Tryz.prog 3 (.int .i64 0) 1 8 := elem_of (by kernel_rfl)

end Wh
