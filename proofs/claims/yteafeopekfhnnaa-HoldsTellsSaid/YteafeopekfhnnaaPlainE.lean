/- Chapter 3: what the reference's 'with' has written after k of the holds. No program. -/
import Derived.Test.YteafeopekfhnnaaPlainD
namespace Wh

def doneTo (l : List Hold) (h : Hold) (k : Nat) : Bool := decide (h.n = 0) || (l.take k).any fun x => decide (place h ≤ place x)
def withTo (l : List Hold) (h : Hold) (k : Nat) : List Hold :=
  (l.take k).filter (fun x => decide (place x < place h)) ++ (if doneTo l h k = true ∧ h.n ≠ 0 then [h] else []) ++ (l.take k).filter (fun x => decide (place h < place x))

theorem take_hold {l : List Hold} {k : Nat} (hk : k < l.length) : l.take (k + 1) = l.take k ++ [hold l k] := by
  rw [List.take_succ_eq_append_getElem hk, hold_get hk]
theorem before_lt {l : List Hold} (hr : rises l) {k : Nat} (hk : k < l.length) : ∀ x ∈ l.take k, place x < place (hold l k) := by
  intro x hx
  obtain ⟨i, hi, rfl⟩ := List.getElem_of_mem hx
  rw [List.length_take] at hi
  rw [List.getElem_take, hold_get hk]
  exact List.pairwise_iff_getElem.1 hr i k (by omega) hk (by omega)
theorem withTo_zero (l : List Hold) (h : Hold) : withTo l h 0 = [] ∧ doneTo l h 0 = decide (h.n = 0) := by
  unfold withTo doneTo
  simp
theorem any_no {l : List Hold} {h : Hold} (hb : ∀ x ∈ l, place x < place h) : (l.any fun x => decide (place h ≤ place x)) = false := by
  rw [List.any_eq_false]
  intro x hx
  have := hb x hx
  simp only [decide_eq_true_eq]
  omega
theorem gt_no {l : List Hold} {h : Hold} (hb : ∀ x ∈ l, place x < place h) : l.filter (fun x => decide (place h < place x)) = [] := by
  rw [List.filter_eq_nil_iff]
  intro x hx
  have := hb x hx
  simp only [decide_eq_true_eq]
  omega
theorem with_less_step {l : List Hold} {h : Hold} (hr : rises l) {k : Nat} (hk : k < l.length) (hp : place (hold l k) < place h) : withTo l h (k + 1) = withTo l h k ++ [hold l k] ∧ doneTo l h (k + 1) = doneTo l h k := by
  have hb : ∀ x ∈ l.take k, place x < place h := fun x hx => Int.lt_trans (before_lt hr hk x hx) hp
  have hd : doneTo l h (k + 1) = doneTo l h k := by
    unfold doneTo
    rw [take_hold hk, List.any_append, any_no hb]
    simp; omega
  refine ⟨?_, hd⟩
  have hd0 : doneTo l h k = decide (h.n = 0) := by
    unfold doneTo
    rw [any_no hb, Bool.or_false]
  have hno : ¬ (doneTo l h k = true ∧ h.n ≠ 0) := by
    rw [hd0]
    simp
  unfold withTo
  rw [hd, take_hold hk, List.filter_append, List.filter_append, gt_no hb, if_neg hno, List.filter_cons, if_pos (by simpa using hp), List.filter_cons, if_neg (by simp; omega)]
  simp
theorem done_at {l : List Hold} {h : Hold} {k : Nat} (hk : k < l.length) (hp : place h ≤ place (hold l k)) : doneTo l h (k + 1) = true := by
  unfold doneTo
  rw [take_hold hk, List.any_append]
  simp [hp]
theorem filters_at {l : List Hold} {h : Hold} {k : Nat} (hk : k < l.length) (hp : place h ≤ place (hold l k)) :
    withTo l h (k + 1) = (l.take k).filter (fun x => decide (place x < place h)) ++ (if h.n ≠ 0 then [h] else []) ++ ((l.take k).filter (fun x => decide (place h < place x)) ++ if place h < place (hold l k) then [hold l k] else []) := by
  unfold withTo
  rw [done_at hk hp, take_hold hk, List.filter_append, List.filter_append, List.filter_cons, if_neg (by simp; omega), List.filter_cons]
  simp
theorem notDone {l : List Hold} {h : Hold} {k : Nat} (hd : doneTo l h k = false) : h.n ≠ 0 ∧ ∀ x ∈ l.take k, place x < place h := by
  unfold doneTo at hd
  simp only [Bool.or_eq_false_iff, decide_eq_false_iff_not, List.any_eq_false, decide_eq_true_eq] at hd
  exact ⟨hd.1, fun x hx => by have := hd.2 x hx; omega⟩
theorem with_eq_new {l : List Hold} {h : Hold} {k : Nat} (hk : k < l.length) (hp : place (hold l k) = place h) (hd : doneTo l h k = false) : withTo l h (k + 1) = withTo l h k ++ [h] := by
  obtain ⟨hn, hb⟩ := notDone hd
  rw [filters_at hk (by omega), gt_no hb, if_pos hn, if_neg (by omega)]
  unfold withTo
  rw [hd, gt_no hb]
  simp
theorem with_eq_old {l : List Hold} {h : Hold} (hr : rises l) {k : Nat} (hk : k < l.length) (hp : place (hold l k) = place h) (hd : doneTo l h k = true) : withTo l h (k + 1) = withTo l h k := by
  have hb : ∀ x ∈ l.take k, place x < place h := fun x hx => by have := before_lt hr hk x hx; omega
  rw [filters_at hk (by omega), gt_no hb, if_neg (show ¬ place h < place (hold l k) by omega)]
  unfold withTo
  rw [hd, gt_no hb]
  simp
theorem with_more_new {l : List Hold} {h : Hold} {k : Nat} (hk : k < l.length) (hp : place h < place (hold l k)) (hd : doneTo l h k = false) : withTo l h (k + 1) = (withTo l h k ++ [h]) ++ [hold l k] := by
  obtain ⟨hn, hb⟩ := notDone hd
  rw [filters_at hk (by omega), gt_no hb, if_pos hn, if_pos hp]
  unfold withTo
  rw [hd, gt_no hb]
  simp
theorem with_more_old {l : List Hold} {h : Hold} {k : Nat} (hk : k < l.length) (hp : place h < place (hold l k)) (hd : doneTo l h k = true) : withTo l h (k + 1) = withTo l h k ++ [hold l k] := by
  rw [filters_at hk (by omega), if_pos hp]
  unfold withTo
  rw [hd]
  simp
theorem with_end_old {l : List Hold} {h : Hold} (hd : doneTo l h l.length = true) : withHold l h = withTo l h l.length := by
  unfold withHold withTo
  rw [hd, List.take_length]
  by_cases hn : h.n = 0 <;> simp [hn]
theorem with_end_new {l : List Hold} {h : Hold} (hd : doneTo l h l.length = false) : withHold l h = withTo l h l.length ++ [h] := by
  obtain ⟨hn, hb⟩ := notDone hd
  rw [List.take_length] at hb
  unfold withHold withTo
  rw [hd, List.take_length, gt_no hb, if_neg hn]
  simp
theorem withTo_length (l : List Hold) (h : Hold) (k : Nat) : (withTo l h k).length ≤ 2 * l.length + 1 := by
  unfold withTo
  have h1 := List.length_filter_le (fun x => decide (place x < place h)) (l.take k)
  have h2 := List.length_filter_le (fun x => decide (place h < place x)) (l.take k)
  have h3 := List.length_take_le k l
  have h4 : (l.take k).length ≤ l.length := by rw [List.length_take]; omega
  simp only [List.length_append]
  split <;> simp <;> omega
end Wh
