/- Texts of the claim, joined: PlainD, PlainE. -/
import Derived.Test.YtnjgkhcnialplaaP06
namespace Wh

def cmp3 (a b : Int) : Int := if a < b then -1 else if b < a then 1 else 0
def ord (a b : Hold) : Int :=
  if cmp3 a.order b.order ≠ 0 then cmp3 a.order b.order else if cmp3 a.line b.line ≠ 0 then cmp3 a.line b.line else cmp3 a.bin b.bin

theorem cmp3_cases (a b : Int) : (a < b ∧ cmp3 a b = -1) ∨ (b < a ∧ cmp3 a b = 1) ∨ (a = b ∧ cmp3 a b = 0) := by
  unfold cmp3
  rcases Int.lt_trichotomy a b with h | h | h
  · exact .inl ⟨h, if_pos h⟩
  · exact .inr (.inr ⟨h, by rw [if_neg (by omega), if_neg (by omega)]⟩)
  · exact .inr (.inl ⟨h, by rw [if_neg (by omega), if_pos h]⟩)
theorem ord_cases (a b : Hold) : (ord a b = -1 ∧ (a.order < b.order ∨ a.order = b.order ∧ (a.line < b.line ∨ a.line = b.line ∧ a.bin < b.bin))) ∨
    (ord a b = 1 ∧ (b.order < a.order ∨ a.order = b.order ∧ (b.line < a.line ∨ a.line = b.line ∧ b.bin < a.bin))) ∨ (ord a b = 0 ∧ a.order = b.order ∧ a.line = b.line ∧ a.bin = b.bin) := by
  unfold ord
  rcases cmp3_cases a.order b.order with ⟨h1, e1⟩ | ⟨h1, e1⟩ | ⟨h1, e1⟩ <;> rcases cmp3_cases a.line b.line with ⟨h2, e2⟩ | ⟨h2, e2⟩ | ⟨h2, e2⟩ <;>
    rcases cmp3_cases a.bin b.bin with ⟨h3, e3⟩ | ⟨h3, e3⟩ | ⟨h3, e3⟩ <;> simp only [e1, e2, e3] <;> simp <;> omega
theorem ord_range (a b : Hold) : -1 ≤ ord a b ∧ ord a b ≤ 1 := by
  rcases ord_cases a b with ⟨h, _⟩ | ⟨h, _⟩ | ⟨h, _⟩ <;> omega
theorem ord_neg {a b : Hold} : ord a b < 0 ↔ (a.order < b.order ∨ a.order = b.order ∧ (a.line < b.line ∨ a.line = b.line ∧ a.bin < b.bin)) := by
  rcases ord_cases a b with ⟨h, h'⟩ | ⟨h, h'⟩ | ⟨h, h'⟩ <;> rw [h] <;> omega
theorem ord_zero {a b : Hold} : ord a b = 0 ↔ (a.order = b.order ∧ a.line = b.line ∧ a.bin = b.bin) := by
  rcases ord_cases a b with ⟨h, h'⟩ | ⟨h, h'⟩ | ⟨h, h'⟩ <;> rw [h] <;> omega
theorem ord_place {a b : Hold} (ha : keyOk a.order a.line a.bin) (hb : keyOk b.order b.line b.bin) : ord a b < 0 ↔ place a < place b := by
  rw [ord_neg]
  unfold keyOk at ha hb
  unfold place
  omega
theorem ord_place0 {a b : Hold} (ha : keyOk a.order a.line a.bin) (hb : keyOk b.order b.line b.bin) : ord a b = 0 ↔ place a = place b := by
  rw [ord_zero]
  unfold keyOk at ha hb
  unfold place
  omega

/-- How many stand ahead of it. -/
def pos (l : List Hold) (h : Hold) : Nat := (l.takeWhile fun x => decide (ord x h < 0)).length
def found (l : List Hold) (h : Hold) : Bool := decide (pos l h < l.length) && decide (ord (hold l (pos l h)) h = 0)

theorem takeWhile_length {α : Type} (p : α → Bool) : ∀ (l : List α) (k : Nat), k ≤ l.length → (∀ i (hi : i < l.length), i < k → p l[i] = true) → (∀ (hk : k < l.length), p l[k] = false) → (l.takeWhile p).length = k
  | [], k, hk, _, _ => by simp at hk; simp [hk]
  | x :: l, 0, _, _, h2 => by
    have := h2 (by simp)
    simp at this
    simp [this]
  | x :: l, k + 1, hk, h1, h2 => by
    have h0 := h1 0 (by simp) (by omega)
    simp at h0
    rw [List.takeWhile_cons, h0, if_pos rfl, List.length_cons, takeWhile_length p l k (by simpa using hk) (fun i hi hik => h1 (i + 1) (by simpa using hi) (by omega)) (fun hk' => h2 (by simpa using hk'))]
theorem takeWhile_spec {α : Type} (p : α → Bool) : ∀ (l : List α), (l.takeWhile p).length ≤ l.length ∧ (∀ i (hi : i < l.length), i < (l.takeWhile p).length → p l[i] = true) ∧ ∀ (hk : (l.takeWhile p).length < l.length), p l[(l.takeWhile p).length] = false
  | [] => by simp
  | x :: l => by
    obtain ⟨h1, h2, h3⟩ := takeWhile_spec p l
    by_cases hx : p x = true
    · have e : (x :: l).takeWhile p = x :: l.takeWhile p := by rw [List.takeWhile_cons, if_pos hx]
      rw [e]
      refine ⟨by simpa using h1, fun i hi hik => ?_, fun hk => ?_⟩
      · cases i with
        | zero => simpa using hx
        | succ i => simpa using h2 i (by simpa using hi) (by simpa using hik)
      · have := h3 (by simpa using hk)
        simpa using this
    · have e : (x :: l).takeWhile p = [] := by rw [List.takeWhile_cons, if_neg hx]
      rw [e]
      exact ⟨by simp, fun i hi hik => by simp at hik, fun hk => by simpa using hx⟩
theorem pos_eq {l : List Hold} {h : Hold} {k : Nat} (hk : k ≤ l.length) (h1 : ∀ i, i < k → ord (hold l i) h < 0) (h2 : k < l.length → 0 ≤ ord (hold l k) h) : pos l h = k :=
  takeWhile_length _ l k hk (fun i hi hik => by have := h1 i hik; rw [hold_get hi] at this; simpa using this) (fun hk' => by have := h2 hk'; rw [hold_get hk'] at this; simpa using this)
theorem pos_spec (l : List Hold) (h : Hold) : pos l h ≤ l.length ∧ (∀ i, i < pos l h → ord (hold l i) h < 0) ∧ (pos l h < l.length → 0 ≤ ord (hold l (pos l h)) h) := by
  obtain ⟨h1, h2, h3⟩ := takeWhile_spec (fun x => decide (ord x h < 0)) l
  refine ⟨h1, fun i hi => ?_, fun hk => ?_⟩
  · have := h2 i (Nat.lt_of_lt_of_le hi h1) hi
    rw [hold_get (Nat.lt_of_lt_of_le hi h1)]
    simpa using this
  · have := h3 hk
    rw [hold_get hk]
    exact Int.not_lt.1 (of_decide_eq_false this)

theorem ok_at {l : List Hold} (h : holdsOk l = true) {i : Nat} (hi : i < l.length) : holdFine (hold l i) = true := by
  rw [hold_get hi]
  exact (holdsOk_iff.1 h).1 _ (List.getElem_mem hi)
theorem ok_key {l : List Hold} (h : holdsOk l = true) {i : Nat} (hi : i < l.length) : keyOk (hold l i).order (hold l i).line (hold l i).bin := (fine_iff.1 (ok_at h hi)).1
theorem ok_n {l : List Hold} (h : holdsOk l = true) {i : Nat} (hi : i < l.length) : 1 ≤ (hold l i).n ∧ (hold l i).n ≤ 200 := (fine_iff.1 (ok_at h hi)).2
theorem ok_lt {l : List Hold} (h : holdsOk l = true) {i j : Nat} (hij : i < j) (hj : j < l.length) : ord (hold l i) (hold l j) < 0 := by
  rw [ord_place (ok_key h (by omega)) (ok_key h hj), hold_get hj, hold_get (show i < l.length by omega)]
  exact List.pairwise_iff_getElem.1 (holdsOk_iff.1 h).2 i j (by omega) hj hij
theorem ord_trans {a b c : Hold} (h1 : ord a b < 0) (h2 : ord b c ≤ 0) : ord a c < 0 := by
  rw [ord_neg] at *
  rcases ord_cases b c with ⟨h, h'⟩ | ⟨h, h'⟩ | ⟨h, h'⟩ <;> omega
/-- The search's order: what stands ahead of one that is less is less. -/
theorem ok_less {l : List Hold} (h : holdsOk l = true) {x : Hold} {i j : Nat} (hij : i ≤ j) (hj : j < l.length) (hx : ord (hold l j) x < 0) : ord (hold l i) x < 0 := by
  rcases Nat.lt_or_eq_of_le hij with h1 | rfl
  · exact ord_trans (ok_lt h h1 hj) (by omega)
  · exact hx

theorem found_iff {l : List Hold} {h : Hold} : found l h = true ↔ pos l h < l.length ∧ ord (hold l (pos l h)) h = 0 := by
  unfold found
  simp
theorem found_kept {l : List Hold} (hl : holdsOk l = true) {h : Hold} (hf : found l h = true) : keptAt l h.order h.line h.bin = (hold l (pos l h)).n := by
  obtain ⟨h1, h2⟩ := found_iff.1 hf
  obtain ⟨e1, e2, e3⟩ := ord_zero.1 h2
  obtain ⟨g1, g2⟩ := holdsOk_iff.1 hl
  rw [← e1, ← e2, ← e3]
  exact keptAt_mem g1 g2 (by rw [hold_get h1]; exact List.getElem_mem h1)
theorem notFound_kept {l : List Hold} (hl : holdsOk l = true) {h : Hold} (hf : found l h = false) : keptAt l h.order h.line h.bin = 0 := by
  refine keptAt_none fun x hx hk => ?_
  obtain ⟨i, hi, rfl⟩ := List.getElem_of_mem hx
  have h0 : ord (hold l i) h = 0 := by rw [hold_get hi]; exact ord_zero.2 hk
  obtain ⟨p1, p2, p3⟩ := pos_spec l h
  have hip : pos l h ≤ i := Nat.le_of_not_lt fun hn => by have := p2 i hn; omega
  have hp : pos l h = i := by
    rcases Nat.lt_or_eq_of_le hip with h1 | h1
    · have := ord_trans (ok_lt hl h1 hi) (by omega : ord (hold l i) h ≤ 0)
      have := p3 (by omega)
      omega
    · exact h1
  have : found l h = true := found_iff.2 ⟨by omega, by rw [hp]; exact h0⟩
  rw [hf] at this
  cases this

/-- What withHold comes to, by the place where it stands. -/
theorem filter_lt {l : List Hold} (hl : holdsOk l = true) {h : Hold} (hk : keyOk h.order h.line h.bin) : l.filter (fun x => decide (place x < place h)) = l.take (pos l h) := by
  obtain ⟨p1, p2, p3⟩ := pos_spec l h
  have key : ∀ i (hi : i < l.length), (place l[i] < place h ↔ i < pos l h) := fun i hi => by
    have hki := ok_key hl hi
    rw [hold_get hi] at hki
    rw [← ord_place hki hk, ← hold_get hi]
    constructor
    · intro hlt
      exact Nat.lt_of_not_le fun hn => by have := ok_less hl hn hi hlt; have := p3 (by omega); omega
    · exact p2 i
  conv => lhs; rw [← List.take_append_drop (pos l h) l]
  rw [List.filter_append, List.filter_eq_self.2, List.filter_eq_nil_iff.2, List.append_nil]
  · intro x hx
    obtain ⟨i, hi, rfl⟩ := List.getElem_of_mem hx
    rw [List.getElem_drop]
    rw [List.length_drop] at hi
    simp only [decide_eq_true_eq]
    intro hc
    have := (key (pos l h + i) (by omega)).1 hc
    omega
  · intro x hx
    obtain ⟨i, hi, rfl⟩ := List.getElem_of_mem hx
    rw [List.getElem_take]
    rw [List.length_take] at hi
    simp only [decide_eq_true_eq]
    exact (key i (by omega)).2 (by omega)
theorem filter_gt {l : List Hold} (hl : holdsOk l = true) {h : Hold} (hk : keyOk h.order h.line h.bin) :
    l.filter (fun x => decide (place h < place x)) = l.drop (if found l h then pos l h + 1 else pos l h) := by
  obtain ⟨p1, p2, p3⟩ := pos_spec l h
  have key : ∀ i (hi : i < l.length), (place h < place l[i] ↔ (if found l h then pos l h + 1 else pos l h) ≤ i) := fun i hi => by
    have hki := ok_key hl hi
    have a1 := ord_place hki hk
    have a2 := ord_place0 hki hk
    rw [← hold_get hi]
    have e : place h < place (hold l i) ↔ 0 < ord (hold l i) h := by omega
    rw [e]
    constructor
    · intro hlt
      have hge : pos l h ≤ i := Nat.le_of_not_lt fun hn => by have := p2 i hn; omega
      split
      · rename_i hf
        obtain ⟨f1, f2⟩ := found_iff.1 hf
        rcases Nat.lt_or_eq_of_le hge with h1 | h1
        · omega
        · rw [← h1] at hlt; omega
      · exact hge
    · intro hge
      split at hge
      · rename_i hf
        obtain ⟨f1, f2⟩ := found_iff.1 hf
        have h1 := ok_lt hl (show pos l h < i by omega) hi
        rw [ord_zero] at f2
        rw [ord_neg] at h1
        rcases ord_cases (hold l i) h with ⟨h, h'⟩ | ⟨h, h'⟩ | ⟨h, h'⟩ <;> omega
      · rename_i hf
        have hp3 := p3 (by omega)
        have hnz : ord (hold l (pos l h)) h ≠ 0 := fun h0 => hf (found_iff.2 ⟨by omega, h0⟩)
        rcases Nat.lt_or_eq_of_le hge with h1 | h1
        · have h2 := ok_lt hl h1 hi
          rw [ord_neg] at h2
          rcases ord_cases (hold l (pos l h)) h with ⟨q, q'⟩ | ⟨q, q'⟩ | ⟨q, q'⟩ <;> rcases ord_cases (hold l i) h with ⟨g, g'⟩ | ⟨g, g'⟩ | ⟨g, g'⟩ <;> omega
        · rw [← h1]; omega
  generalize (if found l h then pos l h + 1 else pos l h) = q at key ⊢
  conv => lhs; rw [← List.take_append_drop q l]
  rw [List.filter_append, List.filter_eq_nil_iff.2, List.filter_eq_self.2, List.nil_append]
  · intro x hx
    obtain ⟨i, hi, rfl⟩ := List.getElem_of_mem hx
    rw [List.getElem_drop]
    rw [List.length_drop] at hi
    simp only [decide_eq_true_eq]
    exact (key (q + i) (by omega)).2 (by omega)
  · intro x hx
    obtain ⟨i, hi, rfl⟩ := List.getElem_of_mem hx
    rw [List.getElem_take]
    rw [List.length_take] at hi
    simp only [decide_eq_true_eq]
    intro hc
    have := (key i (by omega)).1 hc
    omega
theorem with_new {l : List Hold} (hl : holdsOk l = true) {h : Hold} (hk : keyOk h.order h.line h.bin) (hn : h.n ≠ 0) (hf : found l h = false) : withHold l h = l.take (pos l h) ++ h :: l.drop (pos l h) := by
  unfold withHold
  rw [filter_lt hl hk, filter_gt hl hk, hf, if_neg hn]
  simp
theorem pos_n (l : List Hold) (h : Hold) (n : Int) : pos l { h with n := n } = pos l h := rfl
theorem found_n (l : List Hold) (h : Hold) (n : Int) : found l { h with n := n } = found l h := rfl
theorem with_more {l : List Hold} (hl : holdsOk l = true) {h : Hold} (hk : keyOk h.order h.line h.bin) (hn : h.n ≠ 0) (hf : found l h = true) : withHold l h = l.set (pos l h) h := by
  unfold withHold
  obtain ⟨f1, f2⟩ := found_iff.1 hf
  rw [filter_lt hl hk, filter_gt hl hk, hf, if_neg hn, List.set_eq_take_append_cons_drop, if_pos f1]
  simp
theorem with_less {l : List Hold} (hl : holdsOk l = true) {h : Hold} (hk : keyOk h.order h.line h.bin) (hn : h.n = 0) (hf : found l h = true) : withHold l h = l.eraseIdx (pos l h) := by
  unfold withHold
  rw [filter_lt hl hk, filter_gt hl hk, hf, if_pos hn, List.eraseIdx_eq_take_drop_succ]
  simp
theorem found_key {l : List Hold} (hl : holdsOk l = true) {h : Hold} (hf : found l h = true) : keyOk h.order h.line h.bin := by
  obtain ⟨f1, f2⟩ := found_iff.1 hf
  obtain ⟨e1, e2, e3⟩ := ord_zero.1 f2
  rw [← e1, ← e2, ← e3]
  exact ok_key hl f1
end Wh
namespace Wh

def doneTo (l : List Hold) (h : Hold) (k : Nat) : Bool := decide (h.n = 0) || (l.take k).any fun x => decide (place h ≤ place x)
def withTo (l : List Hold) (h : Hold) (k : Nat) : List Hold :=
  (l.take k).filter (fun x => decide (place x < place h)) ++ (if doneTo l h k = true ∧ h.n ≠ 0 then [h] else []) ++ (l.take k).filter (fun x => decide (place h < place x))

theorem take_hold {l : List Hold} {k : Nat} (hk : k < l.length) : l.take (k + 1) = l.take k ++ [hold l k] := by
  rw [List.take_succ_eq_append_getElem hk, hold_get hk]
theorem before_lt {l : List Hold} (hr : rises l) {k : Nat} (hk : k < l.length) : ∀ x ∈ l.take k, place x < place (hold l k) := by
  intro x hx
  obtain ⟨i, hi, rfl⟩ := List.getElem_of_mem hx
  rw [List.length_take] at hi
  rw [List.getElem_take, hold_get hk]
  exact List.pairwise_iff_getElem.1 hr i k (by omega) hk (by omega)
theorem withTo_zero (l : List Hold) (h : Hold) : withTo l h 0 = [] ∧ doneTo l h 0 = decide (h.n = 0) := by
  unfold withTo doneTo
  simp
theorem any_no {l : List Hold} {h : Hold} (hb : ∀ x ∈ l, place x < place h) : (l.any fun x => decide (place h ≤ place x)) = false := by
  rw [List.any_eq_false]
  intro x hx
  have := hb x hx
  simp only [decide_eq_true_eq]
  omega
theorem gt_no {l : List Hold} {h : Hold} (hb : ∀ x ∈ l, place x < place h) : l.filter (fun x => decide (place h < place x)) = [] := by
  rw [List.filter_eq_nil_iff]
  intro x hx
  have := hb x hx
  simp only [decide_eq_true_eq]
  omega
theorem with_less_step {l : List Hold} {h : Hold} (hr : rises l) {k : Nat} (hk : k < l.length) (hp : place (hold l k) < place h) : withTo l h (k + 1) = withTo l h k ++ [hold l k] ∧ doneTo l h (k + 1) = doneTo l h k := by
  have hb : ∀ x ∈ l.take k, place x < place h := fun x hx => Int.lt_trans (before_lt hr hk x hx) hp
  have hd : doneTo l h (k + 1) = doneTo l h k := by
    unfold doneTo
    rw [take_hold hk, List.any_append, any_no hb]
    simp; omega
  refine ⟨?_, hd⟩
  have hd0 : doneTo l h k = decide (h.n = 0) := by
    unfold doneTo
    rw [any_no hb, Bool.or_false]
  have hno : ¬ (doneTo l h k = true ∧ h.n ≠ 0) := by
    rw [hd0]
    simp
  unfold withTo
  rw [hd, take_hold hk, List.filter_append, List.filter_append, gt_no hb, if_neg hno, List.filter_cons, if_pos (by simpa using hp), List.filter_cons, if_neg (by simp; omega)]
  simp
theorem done_at {l : List Hold} {h : Hold} {k : Nat} (hk : k < l.length) (hp : place h ≤ place (hold l k)) : doneTo l h (k + 1) = true := by
  unfold doneTo
  rw [take_hold hk, List.any_append]
  simp [hp]
theorem filters_at {l : List Hold} {h : Hold} {k : Nat} (hk : k < l.length) (hp : place h ≤ place (hold l k)) :
    withTo l h (k + 1) = (l.take k).filter (fun x => decide (place x < place h)) ++ (if h.n ≠ 0 then [h] else []) ++ ((l.take k).filter (fun x => decide (place h < place x)) ++ if place h < place (hold l k) then [hold l k] else []) := by
  unfold withTo
  rw [done_at hk hp, take_hold hk, List.filter_append, List.filter_append, List.filter_cons, if_neg (by simp; omega), List.filter_cons]
  simp
theorem notDone {l : List Hold} {h : Hold} {k : Nat} (hd : doneTo l h k = false) : h.n ≠ 0 ∧ ∀ x ∈ l.take k, place x < place h := by
  unfold doneTo at hd
  simp only [Bool.or_eq_false_iff, decide_eq_false_iff_not, List.any_eq_false, decide_eq_true_eq] at hd
  exact ⟨hd.1, fun x hx => by have := hd.2 x hx; omega⟩
theorem with_eq_new {l : List Hold} {h : Hold} {k : Nat} (hk : k < l.length) (hp : place (hold l k) = place h) (hd : doneTo l h k = false) : withTo l h (k + 1) = withTo l h k ++ [h] := by
  obtain ⟨hn, hb⟩ := notDone hd
  rw [filters_at hk (by omega), gt_no hb, if_pos hn, if_neg (by omega)]
  unfold withTo
  rw [hd, gt_no hb]
  simp
theorem with_eq_old {l : List Hold} {h : Hold} (hr : rises l) {k : Nat} (hk : k < l.length) (hp : place (hold l k) = place h) (hd : doneTo l h k = true) : withTo l h (k + 1) = withTo l h k := by
  have hb : ∀ x ∈ l.take k, place x < place h := fun x hx => by have := before_lt hr hk x hx; omega
  rw [filters_at hk (by omega), gt_no hb, if_neg (show ¬ place h < place (hold l k) by omega)]
  unfold withTo
  rw [hd, gt_no hb]
  simp
theorem with_more_new {l : List Hold} {h : Hold} {k : Nat} (hk : k < l.length) (hp : place h < place (hold l k)) (hd : doneTo l h k = false) : withTo l h (k + 1) = (withTo l h k ++ [h]) ++ [hold l k] := by
  obtain ⟨hn, hb⟩ := notDone hd
  rw [filters_at hk (by omega), gt_no hb, if_pos hn, if_pos hp]
  unfold withTo
  rw [hd, gt_no hb]
  simp
theorem with_more_old {l : List Hold} {h : Hold} {k : Nat} (hk : k < l.length) (hp : place h < place (hold l k)) (hd : doneTo l h k = true) : withTo l h (k + 1) = withTo l h k ++ [hold l k] := by
  rw [filters_at hk (by omega), if_pos hp]
  unfold withTo
  rw [hd]
  simp
theorem with_end_old {l : List Hold} {h : Hold} (hd : doneTo l h l.length = true) : withHold l h = withTo l h l.length := by
  unfold withHold withTo
  rw [hd, List.take_length]
  by_cases hn : h.n = 0 <;> simp [hn]
theorem with_end_new {l : List Hold} {h : Hold} (hd : doneTo l h l.length = false) : withHold l h = withTo l h l.length ++ [h] := by
  obtain ⟨hn, hb⟩ := notDone hd
  rw [List.take_length] at hb
  unfold withHold withTo
  rw [hd, List.take_length, gt_no hb, if_neg hn]
  simp
theorem withTo_length (l : List Hold) (h : Hold) (k : Nat) : (withTo l h k).length ≤ 2 * l.length + 1 := by
  unfold withTo
  have h1 := List.length_filter_le (fun x => decide (place x < place h)) (l.take k)
  have h2 := List.length_filter_le (fun x => decide (place h < place x)) (l.take k)
  have h3 := List.length_take_le k l
  have h4 : (l.take k).length ≤ l.length := by rw [List.length_take]; omega
  simp only [List.length_append]
  split <;> simp <;> omega
end Wh
