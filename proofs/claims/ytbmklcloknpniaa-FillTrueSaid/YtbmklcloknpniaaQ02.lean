/- Texts of the claim, joined: PlainA, WalkB, WalkS, PlainB. -/
import Derived.Test.YtbmklcloknpniaaChecked
import Derived.RangeFuncNested
import Derived.RangeFuncBox
import Derived.RangeFuncLeaves
import Derived.RangeFuncCalls
import Derived.Shelf.Abstract
import Derived.OwnWalkIn
import Derived.TacticsInMore
import Derived.LoopNIn
import Derived.LoopIn
import Derived.Maps.AppendAt
import Derived.Test.YtbmklcloknpniaaQ01
namespace Wh

/-- The plan of the examples. -/
def yardP : Plan := ⟨[⟨false, 100, 0, 0⟩, ⟨true, 30, 4, 8⟩, ⟨false, 60, 0, 0⟩], [2, 3]⟩
-- the first at which something holds
def idxOf {α : Type} (p : α → Bool) (l : List α) : Int := if l.any p then (l.findIdx p : Int) else -1
theorem idxOf_at {α : Type} {p : α → Bool} {l : List α} {k : Nat} (hk : k < l.length) (h : p l[k] = true) (hn : ∀ j (hj : j < k), p (l[j]'(by omega)) = false) : (k : Int) = idxOf p l := by
  unfold idxOf
  rw [if_pos (List.any_eq_true.2 ⟨l[k], List.getElem_mem hk, h⟩), (List.findIdx_eq hk).2 ⟨h, hn⟩]
theorem idxOf_none {α : Type} {p : α → Bool} {l : List α} (hn : ∀ j (hj : j < l.length), p l[j] = false) : (-1 : Int) = idxOf p l := by
  unfold idxOf
  rw [if_neg]
  rw [List.any_eq_true]
  rintro ⟨x, hx, h⟩
  obtain ⟨j, hj, rfl⟩ := List.getElem_of_mem hx
  rw [hn j hj] at h
  exact absurd h (by decide)
theorem idxOf_any {α : Type} (p : α → Bool) (l : List α) : decide (0 ≤ idxOf p l) = l.any p := by
  unfold idxOf
  cases h : l.any p
  · simp
  · simp

-- the least and the greatest of the first numbers
def minTo (f : Nat → Int) : Nat → Int
  | 0 => f 0
  | k + 1 => min (minTo f k) (f (k + 1))
def maxTo (f : Nat → Int) : Nat → Int
  | 0 => f 0
  | k + 1 => max (maxTo f k) (f (k + 1))
theorem le_minTo {f : Nat → Int} {lo : Int} : ∀ {k : Nat}, lo ≤ minTo f k ↔ ∀ j, j ≤ k → lo ≤ f j
  | 0 => ⟨fun h j hj => by obtain rfl : j = 0 := by omega
                           exact h, fun h => h 0 (Nat.le_refl _)⟩
  | k + 1 => by
    have ih := @le_minTo f lo k
    rw [minTo, Int.le_min]
    constructor
    · rintro ⟨h1, h2⟩ j hj
      by_cases he : j = k + 1
      · subst he; exact h2
      · exact ih.1 h1 j (by omega)
    · exact fun h => ⟨ih.2 fun j hj => h j (by omega), h _ (Nat.le_refl _)⟩
theorem maxTo_le {f : Nat → Int} {hi : Int} : ∀ {k : Nat}, maxTo f k ≤ hi ↔ ∀ j, j ≤ k → f j ≤ hi
  | 0 => ⟨fun h j hj => by obtain rfl : j = 0 := by omega
                           exact h, fun h => h 0 (Nat.le_refl _)⟩
  | k + 1 => by
    have ih := @maxTo_le f hi k
    rw [maxTo, Int.max_le]
    constructor
    · rintro ⟨h1, h2⟩ j hj
      by_cases he : j = k + 1
      · subst he; exact h2
      · exact ih.1 h1 j (by omega)
    · exact fun h => ⟨ih.2 fun j hj => h j (by omega), h _ (Nat.le_refl _)⟩
def lowest (l : List Int) : Int := minTo (intAt l) (l.length - 1)
def greatest (l : List Int) : Int := maxTo (intAt l) (l.length - 1)

-- chapter 1
theorem kindsTo_yes {p : Plan} {f : Bool} {k : Nat} (h : (binAt p.bins k).front = f) : kindsTo p f (k + 1) = kindsTo p f k ++ [k] := by
  unfold kindsTo Plan.bin
  rw [List.range_succ, List.filter_append]
  simp [h]
theorem kindsTo_no {p : Plan} {f : Bool} {k : Nat} (h : (binAt p.bins k).front ≠ f) : kindsTo p f (k + 1) = kindsTo p f k := by
  unfold kindsTo Plan.bin
  rw [List.range_succ, List.filter_append]
  simp [h]
theorem mem_kinds {p : Plan} {f : Bool} {b : Nat} : b ∈ kinds p f ↔ b < p.bins.length ∧ (p.bin b).front = f := by
  simp [kinds]
-- sums
theorem sumTo_congr {f g : Nat → Int} {n : Nat} (h : ∀ k, k < n → f k = g k) : sumTo f n = sumTo g n := by
  induction n with
  | zero => rfl
  | succ n ih => rw [sumTo, sumTo, ih (fun k hk => h k (by omega)), h n (by omega)]
theorem sumTo_one {f g : Nat → Int} {n i : Nat} {d : Int} (hi : i < n) (h : ∀ k, k < n → k ≠ i → g k = f k) (hd : g i = f i + d) : sumTo g n = sumTo f n + d := by
  induction n with
  | zero => omega
  | succ n ih =>
    rw [sumTo, sumTo]
    rcases Nat.lt_succ_iff_lt_or_eq.1 hi with hlt | rfl
    · rw [ih hlt (fun k hk hne => h k (by omega) hne), h n (by omega) (by omega)]
      omega
    · rw [sumTo_congr (fun k hk => h k (by omega) (by omega)), hd]
      omega
theorem sumTo_bounds {f : Nat → Int} {n : Nat} {m : Int} (h : ∀ k, k < n → 0 ≤ f k ∧ f k ≤ m) : 0 ≤ sumTo f n ∧ sumTo f n ≤ n * m := by
  induction n with
  | zero => simp [sumTo]
  | succ n ih =>
    have h1 := ih (fun k hk => h k (by omega))
    have h2 := h n (by omega)
    have h3 : ((n + 1 : Nat) : Int) * m = n * m + m := by rw [Int.natCast_add, Int.add_mul]; simp
    rw [sumTo, h3]
    omega

-- rows
theorem intAt_eq {l : List Int} {i : Nat} (h : i < l.length) : intAt l i = l[i] := by simp [intAt, h]
theorem rowAt_eq {l : List (List Int)} {i : Nat} (h : i < l.length) : rowAt l i = l[i] := by simp [rowAt, h]
theorem lineAt_eq {l : List Line} {i : Nat} (h : i < l.length) : lineAt l i = l[i] := by simp [lineAt, h]
theorem moveAt_eq {l : List Move} {i : Nat} (h : i < l.length) : moveAt l i = l[i] := by simp [moveAt, h]
theorem orderAt_eq {l : List Order} {i : Nat} (h : i < l.length) : orderAt l i = l[i] := by simp [orderAt, h]
theorem intAt_set {l : List Int} {i j : Nat} {n : Int} (h : i < l.length) : intAt (l.set i n) j = if j = i then n else intAt l j := by
  unfold intAt
  simp only [List.getD_eq_getElem?_getD]
  by_cases hj : j = i
  · subst hj
    rw [if_pos rfl, List.getElem?_set_self h]
    rfl
  · rw [if_neg hj, List.getElem?_set_ne (Ne.symm hj)]
theorem rowAt_set {l : List (List Int)} {i j : Nat} {r : List Int} (h : i < l.length) : rowAt (l.set i r) j = if j = i then r else rowAt l j := by
  unfold rowAt
  simp only [List.getD_eq_getElem?_getD]
  by_cases hj : j = i
  · subst hj
    rw [if_pos rfl, List.getElem?_set_self h]
    rfl
  · rw [if_neg hj, List.getElem?_set_ne (Ne.symm hj)]
theorem cell_set {on : List (List Int)} {b g b' g' : Nat} {n : Int} (hb : b < on.length) (hg : g < (rowAt on b).length) :
    cell (setCell on b g n) b' g' = if b' = b ∧ g' = g then n else cell on b' g' := by
  unfold cell setCell
  rw [rowAt_set hb]
  by_cases h1 : b' = b
  · subst h1
    rw [if_pos rfl, intAt_set hg]
    simp only [true_and]
  · rw [if_neg h1, if_neg (fun h => h1 h.1)]
theorem length_setCell {on : List (List Int)} {b g : Nat} {n : Int} : (setCell on b g n).length = on.length := by simp [setCell]
theorem rowlen_setCell {on : List (List Int)} {b g i : Nat} {n : Int} : (rowAt (setCell on b g n) i).length = (rowAt on i).length := by
  unfold setCell
  by_cases hb : b < on.length
  · rw [rowAt_set hb]
    split
    · rename_i h; subst h; simp
    · rfl
  · rw [List.set_eq_of_length_le (by omega)]
theorem within_iff {n lo hi : Int} : within n lo hi = true ↔ lo ≤ n ∧ n ≤ hi := by simp [within]
theorem within_false {n lo hi : Int} : within n lo hi = false ↔ n < lo ∨ hi < n := by
  have := @within_iff n lo hi
  cases h : within n lo hi <;> simp [h] at this ⊢ <;> omega
theorem isBin_iff {p : Plan} {b : Int} : isBin p b = true ↔ 0 ≤ b ∧ b < p.bins.length := by rw [isBin, within_iff]; omega
theorem isGood_iff {p : Plan} {g : Int} : isGood p g = true ↔ 0 ≤ g ∧ g < p.sizes.length := by rw [isGood, within_iff]; omega
/-- A right shelf, by its cells. -/
theorem shelfOk_iff {p : Plan} {on : List (List Int)} : shelfOk p on = true ↔
    on.length = p.bins.length ∧ ∀ b, b < on.length → (rowAt on b).length = p.sizes.length ∧ ∀ g, g < p.sizes.length → 0 ≤ cell on b g ∧ cell on b g ≤ 200 := by
  simp only [shelfOk, Bool.and_eq_true, decide_eq_true_eq, List.all_eq_true, rowOk]
  constructor
  · rintro ⟨h1, h2⟩
    refine ⟨h1, fun b hb => ?_⟩
    obtain ⟨h3, h4⟩ := h2 on[b] (List.getElem_mem hb)
    unfold cell
    rw [rowAt_eq hb]
    refine ⟨h3, fun g hg => ?_⟩
    have h5 := h4 on[b][g] (List.getElem_mem (by omega))
    rw [within_iff] at h5
    rw [intAt_eq (by omega)]
    exact h5
  · rintro ⟨h1, h2⟩
    refine ⟨h1, fun row hr => ?_⟩
    obtain ⟨b, hb, rfl⟩ := List.getElem_of_mem hr
    obtain ⟨h3, h4⟩ := h2 b hb
    unfold cell at h4
    rw [rowAt_eq hb] at h3 h4
    refine ⟨h3, fun x hx => ?_⟩
    obtain ⟨g, hg, rfl⟩ := List.getElem_of_mem hx
    have h5 := h4 g (by omega)
    rw [intAt_eq hg] at h5
    rw [within_iff]
    exact h5
theorem checkShelf_zero {p : Plan} {on : List (List Int)} : checkShelf p on = 0 ↔ checkPlan p = 0 ∧ shelfOk p on = true := by
  unfold checkShelf
  by_cases h : checkPlan p = 0
  · simp [h]
  · simp [h]
theorem shelfError_zero {p : Plan} {on : List (List Int)} {b g : Int} : shelfError p on b g = 0 ↔ checkShelf p on = 0 ∧ isBin p b = true ∧ isGood p g = true := by
  unfold shelfError
  by_cases h : checkShelf p on = 0
  · simp only [h, ne_eq, not_true_eq_false, ite_false, true_and, Bool.and_eq_true]
    split <;> simp_all
  · simp [h]
theorem checkPlan_zero {p : Plan} : checkPlan p = 0 ↔ (1 ≤ p.bins.length ∧ p.bins.length ≤ 6) ∧ (1 ≤ p.sizes.length ∧ p.sizes.length ≤ 3) ∧ (∀ b ∈ p.bins, binOk b = true) ∧ ∀ x ∈ p.sizes, sizeOk x = true := by
  unfold checkPlan
  by_cases h1 : (within p.bins.length 1 6 && within p.sizes.length 1 3) = true
  · simp only [h1, Bool.not_true, Bool.false_eq_true, ite_false]
    simp only [Bool.and_eq_true, within_iff] at h1
    by_cases h2 : (p.bins.all binOk && p.sizes.all sizeOk) = true
    · simp only [h2, Bool.not_true, Bool.false_eq_true, ite_false, true_iff]
      simp only [Bool.and_eq_true, List.all_eq_true] at h2
      exact ⟨by omega, by omega, h2.1, h2.2⟩
    · simp only [Bool.not_eq_true] at h2
      simp only [h2, Bool.not_false, ite_true]
      constructor
      · intro h; omega
      · rintro ⟨_, _, h3, h4⟩
        simp [List.all_eq_true.2 h3, List.all_eq_true.2 h4] at h2
  · simp only [Bool.not_eq_true] at h1
    simp only [h1, Bool.not_false, ite_true]
    constructor
    · intro h; omega
    · rintro ⟨h3, h4, _⟩
      have : (within p.bins.length 1 6 && within p.sizes.length 1 3) = true := by
        simp only [Bool.and_eq_true, within_iff]; omega
      rw [this] at h1
      exact absurd h1 (by decide)

theorem binAt_eq {l : List Bin} {i : Nat} (h : i < l.length) : binAt l i = l[i] := by simp [binAt, h]
theorem checkPlan_two {p : Plan} (h : within p.bins.length 1 6 = false ∨ within p.sizes.length 1 3 = false) : checkPlan p = 2 := by
  unfold checkPlan
  rcases h with h | h <;> simp [h]
theorem checkPlan_size {p : Plan} (h1 : within p.bins.length 1 6 = true) (h2 : within p.sizes.length 1 3 = true) {k : Nat} (hk : k < p.sizes.length) (h : sizeOk (intAt p.sizes k) = false) : checkPlan p = 3 := by
  unfold checkPlan
  rw [h1, h2]
  have : (p.sizes.all sizeOk) = false := by
    rw [List.all_eq_false]
    exact ⟨p.sizes[k], List.getElem_mem hk, by rw [intAt_eq hk] at h; rw [h]; decide⟩
  simp [this]
theorem checkPlan_ok {p : Plan} (h1 : within p.bins.length 1 6 = true) (h2 : within p.sizes.length 1 3 = true) (h3 : ∀ k, k < p.bins.length → binOk (binAt p.bins k) = true) (h4 : ∀ k, k < p.sizes.length → sizeOk (intAt p.sizes k) = true) : checkPlan p = 0 := by
  rw [within_iff] at h1 h2
  rw [checkPlan_zero]
  refine ⟨by omega, by omega, fun b hb => ?_, fun x hx => ?_⟩
  · obtain ⟨i, hi, rfl⟩ := List.getElem_of_mem hb
    have := h3 i hi
    rwa [binAt_eq hi] at this
  · obtain ⟨i, hi, rfl⟩ := List.getElem_of_mem hx
    have := h4 i hi
    rwa [intAt_eq hi] at this
theorem binOk_parts (b : Bin) : (within b.room 0 1000 = false ∧ binOk b = false) ∨ (within b.room 0 1000 = true ∧ within b.high 0 200 = false ∧ binOk b = false) ∨
    (within b.room 0 1000 = true ∧ within b.high 0 200 = true ∧ within b.low 0 b.high = false ∧ binOk b = false) ∨ (within b.room 0 1000 = true ∧ within b.high 0 200 = true ∧ within b.low 0 b.high = true ∧ binOk b = true) := by
  unfold binOk
  cases within b.room 0 1000 <;> cases within b.high 0 200 <;> cases within b.low 0 b.high <;> simp

theorem any_bad (p : Plan) : (p.bins.any fun b => !binOk b) = !(p.bins.all binOk) := by
  rw [List.not_all_eq_any_not]
theorem checkPlan_bad {p : Plan} (h1 : within p.bins.length 1 6 = true) (h2 : within p.sizes.length 1 3 = true) (h : (p.bins.any fun b => !binOk b) = true) : checkPlan p = 3 := by
  unfold checkPlan
  rw [any_bad, Bool.not_eq_true'] at h
  rw [h1, h2, h]
  simp
theorem checkPlan_lowest {p : Plan} (h1 : within p.bins.length 1 6 = true) (h2 : within p.sizes.length 1 3 = true) (h : lowest p.sizes < 1) : checkPlan p = 3 := by
  have h2' := within_iff.1 h2
  by_cases hex : ∃ k, k < p.sizes.length ∧ sizeOk (intAt p.sizes k) = false
  · obtain ⟨k, hk, hk'⟩ := hex
    exact checkPlan_size h1 h2 hk hk'
  · exfalso
    have hall : ∀ k, k < p.sizes.length → 1 ≤ intAt p.sizes k := fun k hk => by
      by_cases hs : sizeOk (intAt p.sizes k) = true
      · unfold sizeOk at hs; rw [within_iff] at hs; exact hs.1
      · exact absurd ⟨k, hk, by simpa using hs⟩ hex
    have := (le_minTo (f := intAt p.sizes) (lo := 1) (k := p.sizes.length - 1)).2 fun j hj => hall j (by omega)
    unfold lowest at h
    omega
theorem checkPlan_greatest {p : Plan} (h1 : within p.bins.length 1 6 = true) (h2 : within p.sizes.length 1 3 = true) (h : 9 < greatest p.sizes) : checkPlan p = 3 := by
  have h2' := within_iff.1 h2
  by_cases hex : ∃ k, k < p.sizes.length ∧ sizeOk (intAt p.sizes k) = false
  · obtain ⟨k, hk, hk'⟩ := hex
    exact checkPlan_size h1 h2 hk hk'
  · exfalso
    have hall : ∀ k, k < p.sizes.length → intAt p.sizes k ≤ 9 := fun k hk => by
      by_cases hs : sizeOk (intAt p.sizes k) = true
      · unfold sizeOk at hs; rw [within_iff] at hs; exact hs.2
      · exact absurd ⟨k, hk, by simpa using hs⟩ hex
    have := (maxTo_le (f := intAt p.sizes) (hi := 9) (k := p.sizes.length - 1)).2 fun j hj => hall j (by omega)
    unfold greatest at h
    omega
theorem checkPlan_good {p : Plan} (h1 : within p.bins.length 1 6 = true) (h2 : within p.sizes.length 1 3 = true) (h : (p.bins.any fun b => !binOk b) = false) (h3 : 1 ≤ lowest p.sizes) (h4 : greatest p.sizes ≤ 9) : checkPlan p = 0 := by
  have h2' := within_iff.1 h2
  rw [any_bad, Bool.not_eq_false'] at h
  refine checkPlan_ok h1 h2 (fun k hk => ?_) fun k hk => ?_
  · rw [binAt_eq hk]; exact List.all_eq_true.1 h _ (List.getElem_mem hk)
  · unfold sizeOk
    rw [within_iff]
    exact ⟨(le_minTo.1 h3) k (by omega), (maxTo_le.1 h4) k (by omega)⟩
theorem binOk_bad (b : Bin) : (within b.room 0 1000 = false ∧ binOk b = false) ∨ (within b.room 0 1000 = true ∧ 200 < b.high ∧ binOk b = false) ∨
    (within b.room 0 1000 = true ∧ b.high ≤ 200 ∧ within b.low 0 b.high = false ∧ binOk b = false) ∨ (within b.room 0 1000 = true ∧ b.high ≤ 200 ∧ within b.low 0 b.high = true ∧ binOk b = true) := by
  rcases binOk_parts b with ⟨h1, h2⟩ | ⟨h1, h2, h3⟩ | ⟨h1, h2, h3, h4⟩ | ⟨h1, h2, h3, h4⟩
  · exact .inl ⟨h1, h2⟩
  · rw [within_false] at h2
    by_cases hh : 200 < b.high
    · exact .inr (.inl ⟨h1, hh, h3⟩)
    · exact .inr (.inr (.inl ⟨h1, by omega, by rw [within_false]; omega, h3⟩))
  · rw [within_iff] at h2
    exact .inr (.inr (.inl ⟨h1, h2.2, h3, h4⟩))
  · rw [within_iff] at h2
    exact .inr (.inr (.inr ⟨h1, h2.2, h3, h4⟩))

theorem rowOk_bad {p : Plan} (row : List Int) (hn : 0 < p.sizes.length) : (row.length ≠ p.sizes.length ∧ rowOk p row = false) ∨ (row.length = p.sizes.length ∧ lowest row < 0 ∧ rowOk p row = false) ∨
    (row.length = p.sizes.length ∧ 0 ≤ lowest row ∧ 200 < greatest row ∧ rowOk p row = false) ∨ (row.length = p.sizes.length ∧ 0 ≤ lowest row ∧ greatest row ≤ 200 ∧ rowOk p row = true) := by
  by_cases h1 : row.length = p.sizes.length
  · have key : rowOk p row = true ↔ 0 ≤ lowest row ∧ greatest row ≤ 200 := by
      unfold rowOk lowest greatest
      simp only [h1, decide_true, Bool.true_and, List.all_eq_true]
      rw [le_minTo, maxTo_le]
      constructor
      · intro h
        exact ⟨fun j hj => by rw [intAt_eq (by omega)]; exact (within_iff.1 (h _ (List.getElem_mem _))).1, fun j hj => by rw [intAt_eq (by omega)]; exact (within_iff.1 (h _ (List.getElem_mem _))).2⟩
      · rintro ⟨h2, h3⟩ x hx
        obtain ⟨j, hj, rfl⟩ := List.getElem_of_mem hx
        rw [within_iff]
        have := h2 j (by omega)
        have := h3 j (by omega)
        rw [intAt_eq hj] at *
        omega
    by_cases h2 : lowest row < 0
    · exact .inr (.inl ⟨h1, h2, by rw [← Bool.not_eq_true, key]; omega⟩)
    · by_cases h3 : 200 < greatest row
      · exact .inr (.inr (.inl ⟨h1, by omega, h3, by rw [← Bool.not_eq_true, key]; omega⟩))
      · exact .inr (.inr (.inr ⟨h1, by omega, by omega, key.2 ⟨by omega, by omega⟩⟩))
  · exact .inl ⟨h1, by unfold rowOk; simp [h1]⟩
theorem any_badRow (p : Plan) (on : List (List Int)) : (on.any fun r => !rowOk p r) = !(on.all (rowOk p)) := by
  rw [List.not_all_eq_any_not]
theorem checkShelf_plan {p : Plan} {on : List (List Int)} (h : checkPlan p ≠ 0) : checkShelf p on = checkPlan p := by
  unfold checkShelf
  rw [if_pos h]
theorem checkShelf_len {p : Plan} {on : List (List Int)} (h : checkPlan p = 0) (hl : on.length ≠ p.bins.length) : checkShelf p on = 1 := by
  unfold checkShelf shelfOk
  simp [h, hl]
theorem checkShelf_bad {p : Plan} {on : List (List Int)} (h : checkPlan p = 0) (hb : (on.any fun r => !rowOk p r) = true) : checkShelf p on = 1 := by
  rw [any_badRow, Bool.not_eq_true'] at hb
  unfold checkShelf shelfOk
  simp [h, hb]
theorem checkShelf_good {p : Plan} {on : List (List Int)} (h : checkPlan p = 0) (hl : on.length = p.bins.length) (hb : (on.any fun r => !rowOk p r) = false) : checkShelf p on = 0 := by
  rw [any_badRow, Bool.not_eq_false'] at hb
  unfold checkShelf shelfOk
  simp [h, hl, hb]
/-- What a right shelf and a right plan give of each cell and size. -/
theorem right_cell {p : Plan} {on : List (List Int)} (h : checkShelf p on = 0) {b g : Nat} (hb : b < on.length) (hg : g < p.sizes.length) : 0 ≤ cell on b g ∧ cell on b g ≤ 200 :=
  ((shelfOk_iff.1 (checkShelf_zero.1 h).2).2 b hb).2 g hg
theorem right_row {p : Plan} {on : List (List Int)} (h : checkShelf p on = 0) {b : Nat} (hb : b < on.length) : (rowAt on b).length = p.sizes.length :=
  ((shelfOk_iff.1 (checkShelf_zero.1 h).2).2 b hb).1
theorem right_len {p : Plan} {on : List (List Int)} (h : checkShelf p on = 0) : on.length = p.bins.length := (shelfOk_iff.1 (checkShelf_zero.1 h).2).1
theorem right_size {p : Plan} (h : checkPlan p = 0) {g : Nat} (hg : g < p.sizes.length) : 1 ≤ intAt p.sizes g ∧ intAt p.sizes g ≤ 9 := by
  have h1 := (checkPlan_zero.1 h).2.2.2 p.sizes[g] (List.getElem_mem hg)
  unfold sizeOk at h1
  rw [within_iff] at h1
  rw [intAt_eq hg]
  exact h1
theorem right_bin {p : Plan} (h : checkPlan p = 0) {b : Nat} (hb : b < p.bins.length) : (0 ≤ (binAt p.bins b).room ∧ (binAt p.bins b).room ≤ 1000) ∧ (0 ≤ (binAt p.bins b).low ∧ (binAt p.bins b).low ≤ (binAt p.bins b).high) ∧ (0 ≤ (binAt p.bins b).high ∧ (binAt p.bins b).high ≤ 200) := by
  have h1 := (checkPlan_zero.1 h).2.2.1 p.bins[b] (List.getElem_mem hb)
  rw [← binAt_eq hb] at h1
  simp only [binOk, Bool.and_eq_true, within_iff] at h1
  exact ⟨h1.1.1, h1.2, h1.1.2⟩
theorem right_counts {p : Plan} (h : checkPlan p = 0) : 1 ≤ p.bins.length ∧ p.bins.length ≤ 6 ∧ 1 ≤ p.sizes.length ∧ p.sizes.length ≤ 3 := by
  have := checkPlan_zero.1 h
  omega
theorem sum_range {p : Plan} {on : List (List Int)} (h : checkShelf p on = 0) {g : Nat} (hg : g < p.sizes.length) {k : Nat} (hk : k ≤ on.length) :
    0 ≤ sumTo (fun b => cell on b g) k ∧ sumTo (fun b => cell on b g) k ≤ k * 200 :=
  sumTo_bounds fun _ hj => right_cell h (by omega) hg

theorem setCell_ok {p : Plan} {on : List (List Int)} {b g : Nat} {n : Int} (h : shelfOk p on = true) (hn : 0 ≤ n ∧ n ≤ 200) (hb : b < p.bins.length) (hg : g < p.sizes.length) :
    shelfOk p (setCell on b g n) = true := by
  rw [shelfOk_iff] at h ⊢
  obtain ⟨h1, h2⟩ := h
  rw [length_setCell]
  refine ⟨h1, fun i hi => ?_⟩
  rw [rowlen_setCell]
  refine ⟨(h2 i hi).1, fun j hj => ?_⟩
  rw [cell_set (by omega) (by rw [(h2 b (by omega)).1]; omega)]
  split
  · exact hn
  · exact (h2 i hi).2 j hj
end Wh
namespace Wh
open Go Go.RowKit Go.Shelf Go.Proofs
attribute [local go_sem] run_indexAt_letter

set_option maxHeartbeats 1000000 in
theorem slMin (w : World) (v : Value) (l : List Int) (hv : Sl cInt w w.heap.size v l) (hn : 0 < l.length) :
    Calls Try.prog 34 #[v] w fun e w' => e = .returned (.int .i64 (lowest l)) ∧ w = w' := by
  obtain ⟨A, c, rfl, hl, hA⟩ := hv
  obtain ⟨hok, hAb, b0⟩ := hA.int hn
  have hn' : 1 ≤ l.length := hn
  simp only [Nat.add_zero] at b0
  go_enter Try.func34, Try.ntmps34
  go_wp2_with fail
  go_loop [3, 4] (fun m i => ∃ k : Nat, k + 1 ≤ l.length ∧ i = .int .i64 (k + 1 : Nat) ∧ m = .int .i64 (minTo (intAt l) k)) (fun _ i => l.length - (intOf i).toNat)
  case atStart => exact ⟨0, hn', rfl, rfl⟩
  case round =>
    obtain ⟨k, hk, rfl, rfl⟩ := hrel
    by_cases hlt : k + 1 < l.length
    · obtain ⟨_, _, b1⟩ := hA.int hlt
      go_wp2_with fail
      go_round
      case rel => exact ⟨k + 1, by omega, by go_num, by rw [minTo]; first | done | (congr 1; split <;> omega)⟩
      case measure => simp [intOf]; omega
    · obtain rfl : k = l.length - 1 := by omega
      go_wp2_with fail
      go_ret
      exact ⟨rfl, rfl⟩
set_option maxHeartbeats 1000000 in
theorem slMax (w : World) (v : Value) (l : List Int) (hv : Sl cInt w w.heap.size v l) (hn : 0 < l.length) :
    Calls Try.prog 35 #[v] w fun e w' => e = .returned (.int .i64 (greatest l)) ∧ w = w' := by
  obtain ⟨A, c, rfl, hl, hA⟩ := hv
  obtain ⟨hok, hAb, b0⟩ := hA.int hn
  have hn' : 1 ≤ l.length := hn
  simp only [Nat.add_zero] at b0
  go_enter Try.func35, Try.ntmps35
  go_wp2_with fail
  go_loop [3, 4] (fun m i => ∃ k : Nat, k + 1 ≤ l.length ∧ i = .int .i64 (k + 1 : Nat) ∧ m = .int .i64 (maxTo (intAt l) k)) (fun _ i => l.length - (intOf i).toNat)
  case atStart => exact ⟨0, hn', rfl, rfl⟩
  case round =>
    obtain ⟨k, hk, rfl, rfl⟩ := hrel
    by_cases hlt : k + 1 < l.length
    · obtain ⟨_, _, b1⟩ := hA.int hlt
      go_wp2_with fail
      go_round
      case rel => exact ⟨k + 1, by omega, by go_num, by rw [maxTo]; first | done | (congr 1; split <;> omega)⟩
      case measure => simp [intOf]; omega
    · obtain rfl : k = l.length - 1 := by omega
      go_wp2_with fail
      go_ret
      exact ⟨rfl, rfl⟩
end Wh
namespace Wh
open Go Go.RowKit Go.Shelf Go.Proofs
attribute [local go_sem] run_indexAt_letter
attribute [local go_sem] Oper.semAt_some

/-- What a round of the loop's user keeps: what lay below n₀, and the one box. -/
def KpB (n₀ Bf : Nat) (W W' : World) : Prop := Below n₀ W W' ∧ W'.cell? ⟨Bf, 0, none⟩ = W.cell? ⟨Bf, 0, none⟩
theorem bins_in (F : Fence) (n : Nat) (h : F.fn 11) (hro : F.round = none) (v0 v1 : Value) (f : Bool) (w : World) :
    CallsIn F n Try.prog 11 #[.agg #[v0, v1], .bool f] w fun e w' => e = .returned (.func (.func 29) #[] #[.pointer (some ⟨w.heap.size, 0, none⟩), .pointer (some ⟨w.heap.size + 1, 0, none⟩)]) ∧
      w' = (w.alloc (.cells #[v0, v1] 25)).alloc (.cells #[.bool f] 4) := by
  refine callsIn_of_wp Try.func11 rfl h ?_ hro
  simp only [Try.ntmps11, List.size_toArray, List.length_cons, List.length_nil, Nat.reduceAdd, Nat.reduceSub, Array.replicate_succ, Array.replicate_zero, List.push_toArray, List.append_toArray, List.nil_append, List.cons_append]
  gi_wp2
  go_ret
  exact ⟨rfl, rfl⟩

end Wh
namespace Wh

def rises (l : List Hold) : Prop := l.Pairwise fun a b => place a < place b
def fine (l : List Hold) : Prop := ∀ h ∈ l, holdFine h = true
/-- A key that a right hold may have. -/
def keyOk (o ln b : Int) : Prop := (0 ≤ o ∧ o ≤ 3) ∧ (0 ≤ ln ∧ ln ≤ 2) ∧ (0 ≤ b ∧ b ≤ 5)
theorem fine_iff {h : Hold} : holdFine h = true ↔ keyOk h.order h.line h.bin ∧ 1 ≤ h.n ∧ h.n ≤ 200 := by
  simp only [holdFine, Bool.and_eq_true, within_iff, keyOk]
  omega
theorem place_inj {a b : Hold} (ha : keyOk a.order a.line a.bin) (hb : keyOk b.order b.line b.bin) (h : place a = place b) : a.order = b.order ∧ a.line = b.line ∧ a.bin = b.bin := by
  unfold keyOk at ha hb
  unfold place at h
  omega
theorem place_congr {a b : Hold} (h : a.order = b.order ∧ a.line = b.line ∧ a.bin = b.bin) : place a = place b := by
  unfold place
  rw [h.1, h.2.1, h.2.2]

theorem hold_get {l : List Hold} {k : Nat} (hk : k < l.length) : hold l k = l[k] := by simp [hold, hk]
theorem holdsOk_iff {l : List Hold} : holdsOk l = true ↔ fine l ∧ rises l := by
  simp only [holdsOk, List.all_eq_true, List.mem_range, Bool.and_eq_true, Bool.or_eq_true, decide_eq_true_eq]
  constructor
  · intro h
    have hstep : ∀ k, k + 1 < l.length → place (hold l k) < place (hold l (k + 1)) := fun k hk => by
      rcases (h (k + 1) hk).2 with h1 | h1
      · omega
      · simpa using h1
    have hmono : ∀ d i, i + d + 1 < l.length → place (hold l i) < place (hold l (i + d + 1)) := by
      intro d
      induction d with
      | zero => exact fun i hi => hstep i (by omega)
      | succ d ih =>
        intro i hi
        have h1 := ih i (by omega)
        have h2 := hstep (i + d + 1) (by omega)
        rw [show i + (d + 1) + 1 = i + d + 1 + 1 by omega]
        omega
    refine ⟨fun x hx => ?_, ?_⟩
    · obtain ⟨k, hk, rfl⟩ := List.getElem_of_mem hx
      rw [← hold_get hk]
      exact (h k hk).1
    · refine List.pairwise_iff_getElem.2 fun i j hi hj hij => ?_
      have := hmono (j - i - 1) i (by omega)
      rw [show i + (j - i - 1) + 1 = j by omega, hold_get hi, hold_get hj] at this
      exact this
  · rintro ⟨h1, h2⟩ k hk
    refine ⟨by rw [hold_get hk]; exact h1 _ (List.getElem_mem hk), ?_⟩
    by_cases h0 : k = 0
    · exact .inl h0
    · refine .inr ?_
      rw [hold_get hk, hold_get (show k - 1 < l.length by omega)]
      exact List.pairwise_iff_getElem.1 h2 (k - 1) k (by omega) hk (by omega)

theorem sameKey_iff {o ln b : Int} {h : Hold} : sameKey o ln b h = true ↔ h.order = o ∧ h.line = ln ∧ h.bin = b := by
  simp [sameKey, and_assoc]
theorem keptAt_mem {l : List Hold} (_hf : fine l) (hr : rises l) {h : Hold} (hm : h ∈ l) : keptAt l h.order h.line h.bin = h.n := by
  unfold keptAt
  cases hx : l.find? (sameKey h.order h.line h.bin) with
  | none =>
    have := List.find?_eq_none.1 hx h hm
    simp [sameKey] at this
  | some x =>
    have h1 := sameKey_iff.1 (List.find?_some hx)
    have h2 := List.mem_of_find?_eq_some hx
    have h3 : place x = place h := place_congr h1
    have h4 : x = h := by
      obtain ⟨i, hi, rfl⟩ := List.getElem_of_mem h2
      obtain ⟨j, hj, rfl⟩ := List.getElem_of_mem hm
      rcases Nat.lt_trichotomy i j with h5 | rfl | h5
      · have := List.pairwise_iff_getElem.1 hr i j hi hj h5; omega
      · rfl
      · have := List.pairwise_iff_getElem.1 hr j i hj hi h5; omega
    rw [h4]
theorem keptAt_none {l : List Hold} {o ln b : Int} (h : ∀ x ∈ l, ¬ (x.order = o ∧ x.line = ln ∧ x.bin = b)) : keptAt l o ln b = 0 := by
  unfold keptAt
  cases hx : l.find? (sameKey o ln b) with
  | none => rfl
  | some x => exact absurd (sameKey_iff.1 (List.find?_some hx)) (h x (List.mem_of_find?_eq_some hx))
theorem keptAt_or {l : List Hold} (hf : fine l) (hr : rises l) (o ln b : Int) :
    (∃ h ∈ l, h.order = o ∧ h.line = ln ∧ h.bin = b ∧ keptAt l o ln b = h.n) ∨ ((∀ x ∈ l, ¬ (x.order = o ∧ x.line = ln ∧ x.bin = b)) ∧ keptAt l o ln b = 0) := by
  by_cases h : ∃ x ∈ l, x.order = o ∧ x.line = ln ∧ x.bin = b
  · obtain ⟨x, hx, rfl, rfl, rfl⟩ := h
    exact .inl ⟨x, hx, rfl, rfl, rfl, keptAt_mem hf hr hx⟩
  · refine .inr ⟨fun x hx he => h ⟨x, hx, he⟩, keptAt_none fun x hx he => h ⟨x, hx, he⟩⟩
theorem keptAt_range {l : List Hold} (hf : fine l) (hr : rises l) (o ln b : Int) : 0 ≤ keptAt l o ln b ∧ keptAt l o ln b ≤ 200 := by
  rcases keptAt_or hf hr o ln b with ⟨h, hm, _, _, _, he⟩ | ⟨_, he⟩
  · have := fine_iff.1 (hf h hm); omega
  · omega
theorem keptAt_key {l : List Hold} (hf : fine l) (hr : rises l) {o ln b : Int} (h : keptAt l o ln b ≠ 0) : keyOk o ln b ∧ ⟨o, ln, b, keptAt l o ln b⟩ ∈ l := by
  rcases keptAt_or hf hr o ln b with ⟨h', hm, rfl, rfl, rfl, he⟩ | ⟨_, he⟩
  · exact ⟨(fine_iff.1 (hf h' hm)).1, by rw [he]; exact hm⟩
  · exact absurd he h
theorem with_mem {l : List Hold} {h x : Hold} : x ∈ withHold l h ↔ (x ∈ l ∧ place x ≠ place h) ∨ (x = h ∧ h.n ≠ 0) := by
  unfold withHold
  simp only [List.mem_append, List.mem_filter, decide_eq_true_eq]
  by_cases h0 : h.n = 0
  · simp only [h0, ite_true, List.not_mem_nil, or_false, ne_eq, not_true_eq_false, and_false, or_false]
    constructor
    · rintro (⟨h1, h2⟩ | ⟨h1, h2⟩)
      · exact ⟨h1, by omega⟩
      · exact ⟨h1, by omega⟩
    · rintro ⟨h1, h2⟩
      rcases Int.lt_or_lt_of_ne h2 with h3 | h3
      · exact .inl ⟨h1, h3⟩
      · exact .inr ⟨h1, h3⟩
  · simp only [h0, ite_false, List.mem_singleton, ne_eq, not_false_eq_true, and_true]
    constructor
    · rintro ((⟨h1, h2⟩ | h1) | ⟨h1, h2⟩)
      · exact .inl ⟨h1, by omega⟩
      · exact .inr h1
      · exact .inl ⟨h1, by omega⟩
    · rintro (⟨h1, h2⟩ | h1)
      · rcases Int.lt_or_lt_of_ne h2 with h3 | h3
        · exact .inl (.inl ⟨h1, h3⟩)
        · exact .inr ⟨h1, h3⟩
      · exact .inl (.inr h1)
theorem with_rises {l : List Hold} {h : Hold} (hr : rises l) : rises (withHold l h) := by
  unfold withHold rises
  rw [List.pairwise_append, List.pairwise_append]
  refine ⟨⟨hr.filter _, ?_, ?_⟩, hr.filter _, ?_⟩
  · split <;> simp
  · intro a ha b hb
    simp only [List.mem_filter, decide_eq_true_eq] at ha
    split at hb
    · simp at hb
    · obtain rfl := List.mem_singleton.1 hb
      exact ha.2
  · intro a ha b hb
    simp only [List.mem_filter, decide_eq_true_eq] at hb
    rcases List.mem_append.1 ha with ha | ha
    · simp only [List.mem_filter, decide_eq_true_eq] at ha
      omega
    · split at ha
      · simp at ha
      · obtain rfl := List.mem_singleton.1 ha
        exact hb.2
theorem with_ok {l : List Hold} {h : Hold} (hl : holdsOk l = true) (hk : keyOk h.order h.line h.bin) (hn : 0 ≤ h.n ∧ h.n ≤ 200) : holdsOk (withHold l h) = true := by
  rw [holdsOk_iff] at hl ⊢
  refine ⟨fun x hx => ?_, with_rises hl.2⟩
  rcases with_mem.1 hx with ⟨h1, _⟩ | ⟨rfl, h1⟩
  · exact hl.1 x h1
  · exact fine_iff.2 ⟨hk, by omega, hn.2⟩
theorem keptAt_with {l : List Hold} {h : Hold} (hl : holdsOk l = true) (hk : keyOk h.order h.line h.bin) (hn : 0 ≤ h.n ∧ h.n ≤ 200) (o ln b : Int) :
    keptAt (withHold l h) o ln b = if h.order = o ∧ h.line = ln ∧ h.bin = b then h.n else keptAt l o ln b := by
  have hw := with_ok hl hk hn
  rw [holdsOk_iff] at hw hl
  split
  · rename_i he
    obtain ⟨rfl, rfl, rfl⟩ := he
    by_cases h0 : h.n = 0
    · rw [h0]
      refine keptAt_none fun x hx he => ?_
      rcases with_mem.1 hx with ⟨_, h2⟩ | ⟨_, h2⟩
      · exact h2 (place_congr he)
      · exact h2 h0
    · exact keptAt_mem hw.1 hw.2 (with_mem.2 (.inr ⟨rfl, h0⟩))
  · rename_i he
    rcases keptAt_or hl.1 hl.2 o ln b with ⟨x, hx, rfl, rfl, rfl, e⟩ | ⟨h1, e⟩
    · rw [e]
      refine keptAt_mem hw.1 hw.2 (with_mem.2 (.inl ⟨hx, fun hp => ?_⟩))
      have := place_inj (fine_iff.1 (hl.1 x hx)).1 hk hp
      exact he ⟨this.1.symm, this.2.1.symm, this.2.2.symm⟩
    · rw [e]
      refine keptAt_none fun x hx hxe => ?_
      rcases with_mem.1 hx with ⟨h2, _⟩ | ⟨rfl, _⟩
      · exact h1 x h2 hxe
      · exact he hxe

/-- How many all of a line have together: bin by bin. -/
theorem kept_bins {l : List Hold} (hl : holdsOk l = true) (o ln : Int) : kept l o ln = sumTo (fun b => keptAt l o ln b) 6 := by
  have key : ∀ l : List Hold, fine l → rises l → kept l o ln = sumTo (fun b => keptAt l o ln b) 6 := by
    intro l
    induction l with
    | nil => intro _ _; simp [kept, keptAt, sumTo]
    | cons x l ih =>
      intro hf hr
      have hf' : fine l := fun h hm => hf h (List.mem_cons_of_mem _ hm)
      have hr' := List.pairwise_cons.1 hr
      have ih' := ih hf' hr'.2
      have hx := fine_iff.1 (hf x (List.mem_cons_self ..))
      have hcons : ∀ b, keptAt (x :: l) o ln b = if x.order = o ∧ x.line = ln ∧ x.bin = b then x.n else keptAt l o ln b := by
        intro b
        unfold keptAt
        rw [List.find?_cons]
        by_cases hk : x.order = o ∧ x.line = ln ∧ x.bin = b
        · rw [if_pos hk, sameKey_iff.2 hk]
        · rw [if_neg hk, show sameKey o ln b x = false by rw [← Bool.not_eq_true, sameKey_iff]; exact hk]
      by_cases hs : x.order = o ∧ x.line = ln
      · have h0 : keptAt l o ln x.bin = 0 := keptAt_none fun y hy he => by
          have h1 := hr'.1 y hy
          rw [place_congr ⟨hs.1.trans he.1.symm, hs.2.trans he.2.1.symm, he.2.2.symm⟩] at h1
          omega
        have hk1 : kept (x :: l) o ln = kept l o ln + x.n := by
          unfold kept
          rw [List.filter_cons_of_pos (by simp [sameLine, hs.1, hs.2])]
          simp [Int.add_comm]
        rw [hk1, ih']
        refine (sumTo_one (f := fun b => keptAt l o ln b) (g := fun b => keptAt (x :: l) o ln b) (i := x.bin.toNat) (d := x.n) ?_ ?_ ?_).symm
        · have := hx.1.2.2; omega
        · intro b _ hb
          show keptAt (x :: l) o ln b = keptAt l o ln b
          rw [hcons, if_neg (by have := hx.1.2.2; omega)]
        · have hb := hx.1.2.2
          show keptAt (x :: l) o ln (x.bin.toNat : Int) = keptAt l o ln (x.bin.toNat : Int) + x.n
          rw [Int.toNat_of_nonneg hb.1, hcons, if_pos ⟨hs.1, hs.2, rfl⟩, h0]
          omega
      · have hk1 : kept (x :: l) o ln = kept l o ln := by
          unfold kept
          rw [List.filter_cons_of_neg (by simp [sameLine]; exact fun h => fun h' => hs ⟨h, h'⟩)]
        rw [hk1, ih']
        refine sumTo_congr fun b _ => ?_
        show _ = keptAt (x :: l) o ln b
        rw [hcons, if_neg (fun he => hs ⟨he.1, he.2.1⟩)]
  rw [holdsOk_iff] at hl
  exact key l hl.1 hl.2
theorem kept_with {l : List Hold} {h : Hold} (hl : holdsOk l = true) (hk : keyOk h.order h.line h.bin) (hn : 0 ≤ h.n ∧ h.n ≤ 200) (o ln : Int) :
    kept (withHold l h) o ln = kept l o ln + if h.order = o ∧ h.line = ln then h.n - keptAt l h.order h.line h.bin else 0 := by
  rw [kept_bins (with_ok hl hk hn), kept_bins hl]
  by_cases hs : h.order = o ∧ h.line = ln
  · rw [if_pos hs]
    obtain ⟨rfl, rfl⟩ := hs
    refine sumTo_one (i := h.bin.toNat) (by have := hk.2.2; omega) (fun b _ hb => ?_) ?_
    · show keptAt (withHold l h) _ _ _ = _
      rw [keptAt_with hl hk hn, if_neg (by have := hk.2.2; omega)]
    · show keptAt (withHold l h) _ _ _ = _
      rw [keptAt_with hl hk hn, if_pos ⟨rfl, rfl, by have := hk.2.2; omega⟩]
      rw [show ((h.bin.toNat : Nat) : Int) = h.bin by have := hk.2.2; omega]
      omega
  · rw [if_neg hs, Int.add_zero]
    refine sumTo_congr fun b _ => ?_
    show keptAt (withHold l h) _ _ _ = _
    rw [keptAt_with hl hk hn, if_neg (fun he => hs ⟨he.1, he.2.1⟩)]
theorem kept_range {l : List Hold} (hl : holdsOk l = true) (o ln : Int) : 0 ≤ kept l o ln ∧ kept l o ln ≤ 1200 := by
  rw [kept_bins hl]
  rw [holdsOk_iff] at hl
  have := sumTo_bounds (f := fun b => keptAt l o ln b) (n := 6) (m := 200) fun b _ => keptAt_range hl.1 hl.2 o ln b
  omega

end Wh
