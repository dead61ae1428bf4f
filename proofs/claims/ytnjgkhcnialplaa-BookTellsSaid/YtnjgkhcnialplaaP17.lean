/- Texts of the claim, joined: LibSl. -/
import Derived.Deep.RegionLaw
import Derived.Test.YtnjgkhcnialplaaP05
import Derived.Test.YtnjgkhcnialplaaP16
namespace Wh
open Go Go.RowKit Go.Shelf Go.Proofs
attribute [local go_sem] run_indexAt_letter
theorem erase_flat {α : Type} (enc : α → List Value) (l : List α) (k : Nat) : (l.eraseIdx k).flatMap enc = (l.take k).flatMap enc ++ (l.drop (k + 1)).flatMap enc := by
  rw [List.eraseIdx_eq_take_drop_succ, List.flatMap_append]

theorem infoHold : Elem Try.prog 87 (.agg #[.int .i64 0, .int .i64 0, .int .i64 0, .int .i64 0]) 4 32 := elem_of (by kernel_rfl)
theorem oneHold (x : Hold) : ∀ u ∈ cHold x, u.oneCell' = true := by simp [cHold, Value.oneCell']
set_option maxHeartbeats 1000000 in
theorem cloneHold (w : World) (v : Value) (l : List Hold) (hv : Sl cHold w w.heap.size v l) (hn : l.length ≤ 1000000) :
    Calls Try.prog 101 #[v] w (Gives (fun u w' => Own cHold 4 87 w' w.heap.size u l) w) := by
  obtain ⟨A, c, rfl, hl, hA⟩ := hv
  have qT : ∀ (w : World) (a : Option Addr) (n c n' c' : Nat), (binOp .eql 28 (.slice a n c) (.slice none n' c')).run Try.prog w = .ok (.bool a.isNone) w := fun w a n c n' c' => Lib.run_eql_slice_nil w _ _ a n c n' c' Try.underlying28
  cases A with
  | none =>
    have h0 : l = [] := by
      cases l with
      | nil => rfl
      | cons x r => exact absurd (hA.ok (by simp [cHold])) (by rintro ⟨b, off, h⟩; cases h)
    subst h0
    go_enter Try.func101, Try.ntmps101
    go_wp2_with (at_builtin; refine Hid.out ?_)
    go_ret
    exact ⟨_, rfl, Own.nil, Below.refl _ _⟩
  | some ad =>
    go_enter Try.func101, Try.ntmps101
    go_wp2_with (at_builtin; refine Hid.out ?_)
    unfold Hid
    refine wpList_all _ rfl (.tmp 5) (.tmp 6) 28 87 rfl w.heap.size _ 4 32 Try.underlying28 infoHold rfl (by decide) (by decide) (.slice (some ⟨w.heap.size, 0, none⟩) 0 0) ([] : List Hold) l rfl (Own.made0 w _ (Nat.le_refl _)) (some ad) c w.heap.size rfl (fun _ => rfl)
      (hA.up ((Below.refl _ _).alloc (Nat.le_refl _) _) (Nat.le_refl _)) (fun y => oneHold y) (by simpa using hn) (by simp) ?_
    intro v1 w1 hown1 hg1 hat1 hbel1
    go_wp2_with fail
    go_ret
    exact ⟨_, rfl, by simpa using hown1, ((Below.refl _ _).alloc (Nat.le_refl _) _).trans hbel1⟩

theorem infoMove : Elem Try.prog 92 (.agg #[.int .i64 0, .int .i64 0, .int .i64 0, .int .i64 0]) 4 32 := elem_of (by kernel_rfl)
theorem oneMove (x : Move) : ∀ u ∈ cMove x, u.oneCell' = true := by simp [cMove, Value.oneCell']
set_option maxHeartbeats 1000000 in
theorem cloneMove (w : World) (v : Value) (l : List Move) (hv : Sl cMove w w.heap.size v l) (hn : l.length ≤ 1000000) :
    Calls Try.prog 102 #[v] w (Gives (fun u w' => Own cMove 4 92 w' w.heap.size u l) w) := by
  obtain ⟨A, c, rfl, hl, hA⟩ := hv
  have qT : ∀ (w : World) (a : Option Addr) (n c n' c' : Nat), (binOp .eql 29 (.slice a n c) (.slice none n' c')).run Try.prog w = .ok (.bool a.isNone) w := fun w a n c n' c' => Lib.run_eql_slice_nil w _ _ a n c n' c' Try.underlying29
  cases A with
  | none =>
    have h0 : l = [] := by
      cases l with
      | nil => rfl
      | cons x r => exact absurd (hA.ok (by simp [cMove])) (by rintro ⟨b, off, h⟩; cases h)
    subst h0
    go_enter Try.func102, Try.ntmps102
    go_wp2_with (at_builtin; refine Hid.out ?_)
    go_ret
    exact ⟨_, rfl, Own.nil, Below.refl _ _⟩
  | some ad =>
    go_enter Try.func102, Try.ntmps102
    go_wp2_with (at_builtin; refine Hid.out ?_)
    unfold Hid
    refine wpList_all _ rfl (.tmp 5) (.tmp 6) 29 92 rfl w.heap.size _ 4 32 Try.underlying29 infoMove rfl (by decide) (by decide) (.slice (some ⟨w.heap.size, 0, none⟩) 0 0) ([] : List Move) l rfl (Own.made0 w _ (Nat.le_refl _)) (some ad) c w.heap.size rfl (fun _ => rfl)
      (hA.up ((Below.refl _ _).alloc (Nat.le_refl _) _) (Nat.le_refl _)) (fun y => oneMove y) (by simpa using hn) (by simp) ?_
    intro v1 w1 hown1 hg1 hat1 hbel1
    go_wp2_with fail
    go_ret
    exact ⟨_, rfl, by simpa using hown1, ((Below.refl _ _).alloc (Nat.le_refl _) _).trans hbel1⟩

theorem infoLine : Elem Try.prog 75 (.agg #[.int .i64 0, .int .i64 0, .int .i64 0, .int .i64 0]) 4 32 := elem_of (by kernel_rfl)
theorem oneLine (x : Line) : ∀ u ∈ cLine x, u.oneCell' = true := by simp [cLine, Value.oneCell']
set_option maxHeartbeats 1000000 in
theorem cloneLine (w : World) (v : Value) (l : List Line) (hv : Sl cLine w w.heap.size v l) (hn : l.length ≤ 1000000) :
    Calls Try.prog 75 #[v] w (Gives (fun u w' => Own cLine 4 75 w' w.heap.size u l) w) := by
  obtain ⟨A, c, rfl, hl, hA⟩ := hv
  have qT : ∀ (w : World) (a : Option Addr) (n c n' c' : Nat), (binOp .eql 63 (.slice a n c) (.slice none n' c')).run Try.prog w = .ok (.bool a.isNone) w := fun w a n c n' c' => Lib.run_eql_slice_nil w _ _ a n c n' c' Try.underlying63
  cases A with
  | none =>
    have h0 : l = [] := by
      cases l with
      | nil => rfl
      | cons x r => exact absurd (hA.ok (by simp [cLine])) (by rintro ⟨b, off, h⟩; cases h)
    subst h0
    go_enter Try.func75, Try.ntmps75
    go_wp2_with (at_builtin; refine Hid.out ?_)
    go_ret
    exact ⟨_, rfl, Own.nil, Below.refl _ _⟩
  | some ad =>
    go_enter Try.func75, Try.ntmps75
    go_wp2_with (at_builtin; refine Hid.out ?_)
    unfold Hid
    refine wpList_all _ rfl (.tmp 5) (.tmp 6) 63 75 rfl w.heap.size _ 4 32 Try.underlying63 infoLine rfl (by decide) (by decide) (.slice (some ⟨w.heap.size, 0, none⟩) 0 0) ([] : List Line) l rfl (Own.made0 w _ (Nat.le_refl _)) (some ad) c w.heap.size rfl (fun _ => rfl)
      (hA.up ((Below.refl _ _).alloc (Nat.le_refl _) _) (Nat.le_refl _)) (fun y => oneLine y) (by simpa using hn) (by simp) ?_
    intro v1 w1 hown1 hg1 hat1 hbel1
    go_wp2_with fail
    go_ret
    exact ⟨_, rfl, by simpa using hown1, ((Below.refl _ _).alloc (Nat.le_refl _) _).trans hbel1⟩

end Wh
