/- Texts of the claim, joined: PlainA, Own, MemK. -/
import Derived.Laws.CopyRow
import Derived.Lib.AppendZerosOnto
import Derived.Lib.Overlaps
import Derived.Laws.Externs
import Derived.Test.YtfhfkijmebhgmaaGreatQ01
namespace Wh

/-- The plan of the examples. -/
def yardP : Plan := ⟨[⟨false, 100, 0, 0⟩, ⟨true, 30, 4, 8⟩, ⟨false, 60, 0, 0⟩], [2, 3]⟩
-- the first at which something holds
def idxOf {α : Type} (p : α → Bool) (l : List α) : Int := if l.any p then (l.findIdx p : Int) else -1
theorem idxOf_at {α : Type} {p : α → Bool} {l : List α} {k : Nat} (hk : k < l.length) (h : p l[k] = true) (hn : ∀ j (hj : j < k), p (l[j]'(by omega)) = false) : (k : Int) = idxOf p l := by
  unfold idxOf
  rw [if_pos (List.any_eq_true.2 ⟨l[k], List.getElem_mem hk, h⟩), (List.findIdx_eq hk).2 ⟨h, hn⟩]
theorem idxOf_none {α : Type} {p : α → Bool} {l : List α} (hn : ∀ j (hj : j < l.length), p l[j] = false) : (-1 : Int) = idxOf p l := by
  unfold idxOf
  rw [if_neg]
  rw [List.any_eq_true]
  rintro ⟨x, hx, h⟩
  obtain ⟨j, hj, rfl⟩ := List.getElem_of_mem hx
  rw [hn j hj] at h
  exact absurd h (by decide)
theorem idxOf_any {α : Type} (p : α → Bool) (l : List α) : decide (0 ≤ idxOf p l) = l.any p := by
  unfold idxOf
  cases h : l.any p
  · simp
  · simp

-- the least and the greatest of the first numbers
def minTo (f : Nat → Int) : Nat → Int
  | 0 => f 0
  | k + 1 => min (minTo f k) (f (k + 1))
def maxTo (f : Nat → Int) : Nat → Int
  | 0 => f 0
  | k + 1 => max (maxTo f k) (f (k + 1))
theorem le_minTo {f : Nat → Int} {lo : Int} : ∀ {k : Nat}, lo ≤ minTo f k ↔ ∀ j, j ≤ k → lo ≤ f j
  | 0 => ⟨fun h j hj => by obtain rfl : j = 0 := by omega
                           exact h, fun h => h 0 (Nat.le_refl _)⟩
  | k + 1 => by
    have ih := @le_minTo f lo k
    rw [minTo, Int.le_min]
    constructor
    · rintro ⟨h1, h2⟩ j hj
      by_cases he : j = k + 1
      · subst he; exact h2
      · exact ih.1 h1 j (by omega)
    · exact fun h => ⟨ih.2 fun j hj => h j (by omega), h _ (Nat.le_refl _)⟩
theorem maxTo_le {f : Nat → Int} {hi : Int} : ∀ {k : Nat}, maxTo f k ≤ hi ↔ ∀ j, j ≤ k → f j ≤ hi
  | 0 => ⟨fun h j hj => by obtain rfl : j = 0 := by omega
                           exact h, fun h => h 0 (Nat.le_refl _)⟩
  | k + 1 => by
    have ih := @maxTo_le f hi k
    rw [maxTo, Int.max_le]
    constructor
    · rintro ⟨h1, h2⟩ j hj
      by_cases he : j = k + 1
      · subst he; exact h2
      · exact ih.1 h1 j (by omega)
    · exact fun h => ⟨ih.2 fun j hj => h j (by omega), h _ (Nat.le_refl _)⟩
def lowest (l : List Int) : Int := minTo (intAt l) (l.length - 1)
def greatest (l : List Int) : Int := maxTo (intAt l) (l.length - 1)

-- chapter 1
theorem kindsTo_yes {p : Plan} {f : Bool} {k : Nat} (h : (binAt p.bins k).front = f) : kindsTo p f (k + 1) = kindsTo p f k ++ [k] := by
  unfold kindsTo Plan.bin
  rw [List.range_succ, List.filter_append]
  simp [h]
theorem kindsTo_no {p : Plan} {f : Bool} {k : Nat} (h : (binAt p.bins k).front ≠ f) : kindsTo p f (k + 1) = kindsTo p f k := by
  unfold kindsTo Plan.bin
  rw [List.range_succ, List.filter_append]
  simp [h]
theorem kindsTo_length (p : Plan) (f : Bool) (k : Nat) : (kindsTo p f k).length ≤ k := by
  unfold kindsTo
  exact Nat.le_trans (List.length_filter_le _ _) (by simp)
theorem nats_length (l : List Nat) : (nats l).length = l.length := by simp [nats]
theorem mem_kinds {p : Plan} {f : Bool} {b : Nat} : b ∈ kinds p f ↔ b < p.bins.length ∧ (p.bin b).front = f := by
  simp [kinds]
theorem kinds_length (p : Plan) : (kinds p true).length + (kinds p false).length = p.bins.length := by
  have h : ∀ l : List Nat, (l.filter fun b => (p.bin b).front == true).length + (l.filter fun b => (p.bin b).front == false).length = l.length := by
    intro l
    induction l with
    | nil => rfl
    | cons x l ih => cases hx : (p.bin x).front <;> simp [hx] at ih ⊢ <;> omega
  rw [kinds, kinds, h, List.length_range]
theorem way_length (p : Plan) : (way p).length = p.bins.length := by
  rw [way, List.length_append, kinds_length]
theorem mem_way {p : Plan} {b : Nat} : b ∈ way p ↔ b < p.bins.length := by
  rw [way, List.mem_append, mem_kinds, mem_kinds]
  cases (p.bin b).front <;> simp
-- sums
theorem sumTo_congr {f g : Nat → Int} {n : Nat} (h : ∀ k, k < n → f k = g k) : sumTo f n = sumTo g n := by
  induction n with
  | zero => rfl
  | succ n ih => rw [sumTo, sumTo, ih (fun k hk => h k (by omega)), h n (by omega)]
theorem sumTo_one {f g : Nat → Int} {n i : Nat} {d : Int} (hi : i < n) (h : ∀ k, k < n → k ≠ i → g k = f k) (hd : g i = f i + d) : sumTo g n = sumTo f n + d := by
  induction n with
  | zero => omega
  | succ n ih =>
    rw [sumTo, sumTo]
    rcases Nat.lt_succ_iff_lt_or_eq.1 hi with hlt | rfl
    · rw [ih hlt (fun k hk hne => h k (by omega) hne), h n (by omega) (by omega)]
      omega
    · rw [sumTo_congr (fun k hk => h k (by omega) (by omega)), hd]
      omega
theorem sumTo_bounds {f : Nat → Int} {n : Nat} {m : Int} (h : ∀ k, k < n → 0 ≤ f k ∧ f k ≤ m) : 0 ≤ sumTo f n ∧ sumTo f n ≤ n * m := by
  induction n with
  | zero => simp [sumTo]
  | succ n ih =>
    have h1 := ih (fun k hk => h k (by omega))
    have h2 := h n (by omega)
    have h3 : ((n + 1 : Nat) : Int) * m = n * m + m := by rw [Int.natCast_add, Int.add_mul]; simp
    rw [sumTo, h3]
    omega

-- rows
theorem intAt_eq {l : List Int} {i : Nat} (h : i < l.length) : intAt l i = l[i] := by simp [intAt, h]
theorem rowAt_eq {l : List (List Int)} {i : Nat} (h : i < l.length) : rowAt l i = l[i] := by simp [rowAt, h]
theorem lineAt_eq {l : List Line} {i : Nat} (h : i < l.length) : lineAt l i = l[i] := by simp [lineAt, h]
theorem moveAt_eq {l : List Move} {i : Nat} (h : i < l.length) : moveAt l i = l[i] := by simp [moveAt, h]
theorem orderAt_eq {l : List Order} {i : Nat} (h : i < l.length) : orderAt l i = l[i] := by simp [orderAt, h]
theorem intAt_set {l : List Int} {i j : Nat} {n : Int} (h : i < l.length) : intAt (l.set i n) j = if j = i then n else intAt l j := by
  unfold intAt
  simp only [List.getD_eq_getElem?_getD]
  by_cases hj : j = i
  · subst hj
    rw [if_pos rfl, List.getElem?_set_self h]
    rfl
  · rw [if_neg hj, List.getElem?_set_ne (Ne.symm hj)]
theorem rowAt_set {l : List (List Int)} {i j : Nat} {r : List Int} (h : i < l.length) : rowAt (l.set i r) j = if j = i then r else rowAt l j := by
  unfold rowAt
  simp only [List.getD_eq_getElem?_getD]
  by_cases hj : j = i
  · subst hj
    rw [if_pos rfl, List.getElem?_set_self h]
    rfl
  · rw [if_neg hj, List.getElem?_set_ne (Ne.symm hj)]
theorem cell_set {on : List (List Int)} {b g b' g' : Nat} {n : Int} (hb : b < on.length) (hg : g < (rowAt on b).length) :
    cell (setCell on b g n) b' g' = if b' = b ∧ g' = g then n else cell on b' g' := by
  unfold cell setCell
  rw [rowAt_set hb]
  by_cases h1 : b' = b
  · subst h1
    rw [if_pos rfl, intAt_set hg]
    simp only [true_and]
  · rw [if_neg h1, if_neg (fun h => h1 h.1)]
theorem length_setCell {on : List (List Int)} {b g : Nat} {n : Int} : (setCell on b g n).length = on.length := by simp [setCell]
theorem rowlen_setCell {on : List (List Int)} {b g i : Nat} {n : Int} : (rowAt (setCell on b g n) i).length = (rowAt on i).length := by
  unfold setCell
  by_cases hb : b < on.length
  · rw [rowAt_set hb]
    split
    · rename_i h; subst h; simp
    · rfl
  · rw [List.set_eq_of_length_le (by omega)]
theorem within_iff {n lo hi : Int} : within n lo hi = true ↔ lo ≤ n ∧ n ≤ hi := by simp [within]
theorem within_false {n lo hi : Int} : within n lo hi = false ↔ n < lo ∨ hi < n := by
  have := @within_iff n lo hi
  cases h : within n lo hi <;> simp [h] at this ⊢ <;> omega
theorem isBin_iff {p : Plan} {b : Int} : isBin p b = true ↔ 0 ≤ b ∧ b < p.bins.length := by rw [isBin, within_iff]; omega
theorem isGood_iff {p : Plan} {g : Int} : isGood p g = true ↔ 0 ≤ g ∧ g < p.sizes.length := by rw [isGood, within_iff]; omega
/-- A right shelf, by its cells. -/
theorem shelfOk_iff {p : Plan} {on : List (List Int)} : shelfOk p on = true ↔
    on.length = p.bins.length ∧ ∀ b, b < on.length → (rowAt on b).length = p.sizes.length ∧ ∀ g, g < p.sizes.length → 0 ≤ cell on b g ∧ cell on b g ≤ 200 := by
  simp only [shelfOk, Bool.and_eq_true, decide_eq_true_eq, List.all_eq_true, rowOk]
  constructor
  · rintro ⟨h1, h2⟩
    refine ⟨h1, fun b hb => ?_⟩
    obtain ⟨h3, h4⟩ := h2 on[b] (List.getElem_mem hb)
    unfold cell
    rw [rowAt_eq hb]
    refine ⟨h3, fun g hg => ?_⟩
    have h5 := h4 on[b][g] (List.getElem_mem (by omega))
    rw [within_iff] at h5
    rw [intAt_eq (by omega)]
    exact h5
  · rintro ⟨h1, h2⟩
    refine ⟨h1, fun row hr => ?_⟩
    obtain ⟨b, hb, rfl⟩ := List.getElem_of_mem hr
    obtain ⟨h3, h4⟩ := h2 b hb
    unfold cell at h4
    rw [rowAt_eq hb] at h3 h4
    refine ⟨h3, fun x hx => ?_⟩
    obtain ⟨g, hg, rfl⟩ := List.getElem_of_mem hx
    have h5 := h4 g (by omega)
    rw [intAt_eq hg] at h5
    rw [within_iff]
    exact h5
theorem checkShelf_zero {p : Plan} {on : List (List Int)} : checkShelf p on = 0 ↔ checkPlan p = 0 ∧ shelfOk p on = true := by
  unfold checkShelf
  by_cases h : checkPlan p = 0
  · simp [h]
  · simp [h]
theorem shelfError_zero {p : Plan} {on : List (List Int)} {b g : Int} : shelfError p on b g = 0 ↔ checkShelf p on = 0 ∧ isBin p b = true ∧ isGood p g = true := by
  unfold shelfError
  by_cases h : checkShelf p on = 0
  · simp only [h, ne_eq, not_true_eq_false, ite_false, true_and, Bool.and_eq_true]
    split <;> simp_all
  · simp [h]
theorem checkPlan_zero {p : Plan} : checkPlan p = 0 ↔ (1 ≤ p.bins.length ∧ p.bins.length ≤ 6) ∧ (1 ≤ p.sizes.length ∧ p.sizes.length ≤ 3) ∧ (∀ b ∈ p.bins, binOk b = true) ∧ ∀ x ∈ p.sizes, sizeOk x = true := by
  unfold checkPlan
  by_cases h1 : (within p.bins.length 1 6 && within p.sizes.length 1 3) = true
  · simp only [h1, Bool.not_true, Bool.false_eq_true, ite_false]
    simp only [Bool.and_eq_true, within_iff] at h1
    by_cases h2 : (p.bins.all binOk && p.sizes.all sizeOk) = true
    · simp only [h2, Bool.not_true, Bool.false_eq_true, ite_false, true_iff]
      simp only [Bool.and_eq_true, List.all_eq_true] at h2
      exact ⟨by omega, by omega, h2.1, h2.2⟩
    · simp only [Bool.not_eq_true] at h2
      simp only [h2, Bool.not_false, ite_true]
      constructor
      · intro h; omega
      · rintro ⟨_, _, h3, h4⟩
        simp [List.all_eq_true.2 h3, List.all_eq_true.2 h4] at h2
  · simp only [Bool.not_eq_true] at h1
    simp only [h1, Bool.not_false, ite_true]
    constructor
    · intro h; omega
    · rintro ⟨h3, h4, _⟩
      have : (within p.bins.length 1 6 && within p.sizes.length 1 3) = true := by
        simp only [Bool.and_eq_true, within_iff]; omega
      rw [this] at h1
      exact absurd h1 (by decide)

theorem binAt_eq {l : List Bin} {i : Nat} (h : i < l.length) : binAt l i = l[i] := by simp [binAt, h]
theorem checkPlan_two {p : Plan} (h : within p.bins.length 1 6 = false ∨ within p.sizes.length 1 3 = false) : checkPlan p = 2 := by
  unfold checkPlan
  rcases h with h | h <;> simp [h]
theorem checkPlan_size {p : Plan} (h1 : within p.bins.length 1 6 = true) (h2 : within p.sizes.length 1 3 = true) {k : Nat} (hk : k < p.sizes.length) (h : sizeOk (intAt p.sizes k) = false) : checkPlan p = 3 := by
  unfold checkPlan
  rw [h1, h2]
  have : (p.sizes.all sizeOk) = false := by
    rw [List.all_eq_false]
    exact ⟨p.sizes[k], List.getElem_mem hk, by rw [intAt_eq hk] at h; rw [h]; decide⟩
  simp [this]
theorem checkPlan_ok {p : Plan} (h1 : within p.bins.length 1 6 = true) (h2 : within p.sizes.length 1 3 = true) (h3 : ∀ k, k < p.bins.length → binOk (binAt p.bins k) = true) (h4 : ∀ k, k < p.sizes.length → sizeOk (intAt p.sizes k) = true) : checkPlan p = 0 := by
  rw [within_iff] at h1 h2
  rw [checkPlan_zero]
  refine ⟨by omega, by omega, fun b hb => ?_, fun x hx => ?_⟩
  · obtain ⟨i, hi, rfl⟩ := List.getElem_of_mem hb
    have := h3 i hi
    rwa [binAt_eq hi] at this
  · obtain ⟨i, hi, rfl⟩ := List.getElem_of_mem hx
    have := h4 i hi
    rwa [intAt_eq hi] at this
theorem binOk_parts (b : Bin) : (within b.room 0 1000 = false ∧ binOk b = false) ∨ (within b.room 0 1000 = true ∧ within b.high 0 200 = false ∧ binOk b = false) ∨
    (within b.room 0 1000 = true ∧ within b.high 0 200 = true ∧ within b.low 0 b.high = false ∧ binOk b = false) ∨ (within b.room 0 1000 = true ∧ within b.high 0 200 = true ∧ within b.low 0 b.high = true ∧ binOk b = true) := by
  unfold binOk
  cases within b.room 0 1000 <;> cases within b.high 0 200 <;> cases within b.low 0 b.high <;> simp

theorem any_bad (p : Plan) : (p.bins.any fun b => !binOk b) = !(p.bins.all binOk) := by
  rw [List.not_all_eq_any_not]
theorem checkPlan_bad {p : Plan} (h1 : within p.bins.length 1 6 = true) (h2 : within p.sizes.length 1 3 = true) (h : (p.bins.any fun b => !binOk b) = true) : checkPlan p = 3 := by
  unfold checkPlan
  rw [any_bad, Bool.not_eq_true'] at h
  rw [h1, h2, h]
  simp
theorem checkPlan_lowest {p : Plan} (h1 : within p.bins.length 1 6 = true) (h2 : within p.sizes.length 1 3 = true) (h : lowest p.sizes < 1) : checkPlan p = 3 := by
  have h2' := within_iff.1 h2
  by_cases hex : ∃ k, k < p.sizes.length ∧ sizeOk (intAt p.sizes k) = false
  · obtain ⟨k, hk, hk'⟩ := hex
    exact checkPlan_size h1 h2 hk hk'
  · exfalso
    have hall : ∀ k, k < p.sizes.length → 1 ≤ intAt p.sizes k := fun k hk => by
      by_cases hs : sizeOk (intAt p.sizes k) = true
      · unfold sizeOk at hs; rw [within_iff] at hs; exact hs.1
      · exact absurd ⟨k, hk, by simpa using hs⟩ hex
    have := (le_minTo (f := intAt p.sizes) (lo := 1) (k := p.sizes.length - 1)).2 fun j hj => hall j (by omega)
    unfold lowest at h
    omega
theorem checkPlan_greatest {p : Plan} (h1 : within p.bins.length 1 6 = true) (h2 : within p.sizes.length 1 3 = true) (h : 9 < greatest p.sizes) : checkPlan p = 3 := by
  have h2' := within_iff.1 h2
  by_cases hex : ∃ k, k < p.sizes.length ∧ sizeOk (intAt p.sizes k) = false
  · obtain ⟨k, hk, hk'⟩ := hex
    exact checkPlan_size h1 h2 hk hk'
  · exfalso
    have hall : ∀ k, k < p.sizes.length → intAt p.sizes k ≤ 9 := fun k hk => by
      by_cases hs : sizeOk (intAt p.sizes k) = true
      · unfold sizeOk at hs; rw [within_iff] at hs; exact hs.2
      · exact absurd ⟨k, hk, by simpa using hs⟩ hex
    have := (maxTo_le (f := intAt p.sizes) (hi := 9) (k := p.sizes.length - 1)).2 fun j hj => hall j (by omega)
    unfold greatest at h
    omega
theorem checkPlan_good {p : Plan} (h1 : within p.bins.length 1 6 = true) (h2 : within p.sizes.length 1 3 = true) (h : (p.bins.any fun b => !binOk b) = false) (h3 : 1 ≤ lowest p.sizes) (h4 : greatest p.sizes ≤ 9) : checkPlan p = 0 := by
  have h2' := within_iff.1 h2
  rw [any_bad, Bool.not_eq_false'] at h
  refine checkPlan_ok h1 h2 (fun k hk => ?_) fun k hk => ?_
  · rw [binAt_eq hk]; exact List.all_eq_true.1 h _ (List.getElem_mem hk)
  · unfold sizeOk
    rw [within_iff]
    exact ⟨(le_minTo.1 h3) k (by omega), (maxTo_le.1 h4) k (by omega)⟩
theorem binOk_bad (b : Bin) : (within b.room 0 1000 = false ∧ binOk b = false) ∨ (within b.room 0 1000 = true ∧ 200 < b.high ∧ binOk b = false) ∨
    (within b.room 0 1000 = true ∧ b.high ≤ 200 ∧ within b.low 0 b.high = false ∧ binOk b = false) ∨ (within b.room 0 1000 = true ∧ b.high ≤ 200 ∧ within b.low 0 b.high = true ∧ binOk b = true) := by
  rcases binOk_parts b with ⟨h1, h2⟩ | ⟨h1, h2, h3⟩ | ⟨h1, h2, h3, h4⟩ | ⟨h1, h2, h3, h4⟩
  · exact .inl ⟨h1, h2⟩
  · rw [within_false] at h2
    by_cases hh : 200 < b.high
    · exact .inr (.inl ⟨h1, hh, h3⟩)
    · exact .inr (.inr (.inl ⟨h1, by omega, by rw [within_false]; omega, h3⟩))
  · rw [within_iff] at h2
    exact .inr (.inr (.inl ⟨h1, h2.2, h3, h4⟩))
  · rw [within_iff] at h2
    exact .inr (.inr (.inr ⟨h1, h2.2, h3, h4⟩))

theorem rowOk_bad {p : Plan} (row : List Int) (hn : 0 < p.sizes.length) : (row.length ≠ p.sizes.length ∧ rowOk p row = false) ∨ (row.length = p.sizes.length ∧ lowest row < 0 ∧ rowOk p row = false) ∨
    (row.length = p.sizes.length ∧ 0 ≤ lowest row ∧ 200 < greatest row ∧ rowOk p row = false) ∨ (row.length = p.sizes.length ∧ 0 ≤ lowest row ∧ greatest row ≤ 200 ∧ rowOk p row = true) := by
  by_cases h1 : row.length = p.sizes.length
  · have key : rowOk p row = true ↔ 0 ≤ lowest row ∧ greatest row ≤ 200 := by
      unfold rowOk lowest greatest
      simp only [h1, decide_true, Bool.true_and, List.all_eq_true]
      rw [le_minTo, maxTo_le]
      constructor
      · intro h
        exact ⟨fun j hj => by rw [intAt_eq (by omega)]; exact (within_iff.1 (h _ (List.getElem_mem _))).1, fun j hj => by rw [intAt_eq (by omega)]; exact (within_iff.1 (h _ (List.getElem_mem _))).2⟩
      · rintro ⟨h2, h3⟩ x hx
        obtain ⟨j, hj, rfl⟩ := List.getElem_of_mem hx
        rw [within_iff]
        have := h2 j (by omega)
        have := h3 j (by omega)
        rw [intAt_eq hj] at *
        omega
    by_cases h2 : lowest row < 0
    · exact .inr (.inl ⟨h1, h2, by rw [← Bool.not_eq_true, key]; omega⟩)
    · by_cases h3 : 200 < greatest row
      · exact .inr (.inr (.inl ⟨h1, by omega, h3, by rw [← Bool.not_eq_true, key]; omega⟩))
      · exact .inr (.inr (.inr ⟨h1, by omega, by omega, key.2 ⟨by omega, by omega⟩⟩))
  · exact .inl ⟨h1, by unfold rowOk; simp [h1]⟩
theorem any_badRow (p : Plan) (on : List (List Int)) : (on.any fun r => !rowOk p r) = !(on.all (rowOk p)) := by
  rw [List.not_all_eq_any_not]
theorem checkShelf_plan {p : Plan} {on : List (List Int)} (h : checkPlan p ≠ 0) : checkShelf p on = checkPlan p := by
  unfold checkShelf
  rw [if_pos h]
theorem checkShelf_len {p : Plan} {on : List (List Int)} (h : checkPlan p = 0) (hl : on.length ≠ p.bins.length) : checkShelf p on = 1 := by
  unfold checkShelf shelfOk
  simp [h, hl]
theorem checkShelf_bad {p : Plan} {on : List (List Int)} (h : checkPlan p = 0) (hb : (on.any fun r => !rowOk p r) = true) : checkShelf p on = 1 := by
  rw [any_badRow, Bool.not_eq_true'] at hb
  unfold checkShelf shelfOk
  simp [h, hb]
theorem checkShelf_good {p : Plan} {on : List (List Int)} (h : checkPlan p = 0) (hl : on.length = p.bins.length) (hb : (on.any fun r => !rowOk p r) = false) : checkShelf p on = 0 := by
  rw [any_badRow, Bool.not_eq_false'] at hb
  unfold checkShelf shelfOk
  simp [h, hl, hb]
/-- What a right shelf and a right plan give of each cell and size. -/
theorem right_cell {p : Plan} {on : List (List Int)} (h : checkShelf p on = 0) {b g : Nat} (hb : b < on.length) (hg : g < p.sizes.length) : 0 ≤ cell on b g ∧ cell on b g ≤ 200 :=
  ((shelfOk_iff.1 (checkShelf_zero.1 h).2).2 b hb).2 g hg
theorem right_row {p : Plan} {on : List (List Int)} (h : checkShelf p on = 0) {b : Nat} (hb : b < on.length) : (rowAt on b).length = p.sizes.length :=
  ((shelfOk_iff.1 (checkShelf_zero.1 h).2).2 b hb).1
theorem right_len {p : Plan} {on : List (List Int)} (h : checkShelf p on = 0) : on.length = p.bins.length := (shelfOk_iff.1 (checkShelf_zero.1 h).2).1
theorem right_counts {p : Plan} (h : checkPlan p = 0) : 1 ≤ p.bins.length ∧ p.bins.length ≤ 6 ∧ 1 ≤ p.sizes.length ∧ p.sizes.length ≤ 3 := by
  have := checkPlan_zero.1 h
  omega
theorem sum_range {p : Plan} {on : List (List Int)} (h : checkShelf p on = 0) {g : Nat} (hg : g < p.sizes.length) {k : Nat} (hk : k ≤ on.length) :
    0 ≤ sumTo (fun b => cell on b g) k ∧ sumTo (fun b => cell on b g) k ≤ k * 200 :=
  sumTo_bounds fun _ hj => right_cell h (by omega) hg

theorem setCell_ok {p : Plan} {on : List (List Int)} {b g : Nat} {n : Int} (h : shelfOk p on = true) (hn : 0 ≤ n ∧ n ≤ 200) (hb : b < p.bins.length) (hg : g < p.sizes.length) :
    shelfOk p (setCell on b g n) = true := by
  rw [shelfOk_iff] at h ⊢
  obtain ⟨h1, h2⟩ := h
  rw [length_setCell]
  refine ⟨h1, fun i hi => ?_⟩
  rw [rowlen_setCell]
  refine ⟨(h2 i hi).1, fun j hj => ?_⟩
  rw [cell_set (by omega) (by rw [(h2 b (by omega)).1]; omega)]
  split
  · exact hn
  · exact (h2 i hi).2 j hj
end Wh
namespace Wh
open Go Go.RowKit

section
variable {P : Program} (w : World)
theorem run_append_nil (base : Nat) (t ty e : TypeId) (i : TypeInfo) (size : Nat) (ht : P.underlying t = some (.slice e)) (hi : P.info? e = some i)
    (v : Value) (n : Nat) (xs : List Value) (hown : w.ownsRow base e size v n xs) (c : Nat) : (Builtin.append_ #[t, t] ty #[v, .slice none 0 c]).run P w = .ok v w := by
  rcases hown.2 with ⟨rfl, rfl⟩ | ⟨g, cap, cur, rfl, _, _, hnc, _⟩
  · simp [Builtin.append_, run_underlying ht, Go.sizeOf, typeInfo, hi, Builtin.lenOf, Builtin.firstCells]
  · simp [Builtin.append_, run_underlying ht, Go.sizeOf, typeInfo, hi, Builtin.lenOf, Builtin.firstCells, hnc, storeCells]

/-- 'v = append(v, xs...)': whatever slice xs is. -/
theorem wpList_all {α : Type} {enc : α → List Value} {ops : Array Oper} {rest : List Oper} {o : Oper} {a : Go.Act} {Q : Exit → Go.Act → World → Prop} (hgd : o.guard = none) (s x : Operand) (t e : TypeId)
    (ho : o.op = .call { callee := .builtin .append, args := #[s, x], argTypes := #[t, t] }) (base : Nat) (z : Value) (size bytes : Nat) (ht : P.underlying t = some (.slice e)) (hi : Elem P e z size bytes)
    (hzs : z.cells.size = size) (hsz : 0 < size) (hby : bytes ≤ 64) (v : Value) (l m : List α) (hs : a.eval s = v) (hown : Own enc size e w base v l)
    (A : Option Addr) (c B : Nat) (hx : a.eval x = .slice A m.length c) (hk : ∀ y, (enc y).length = size) (hA : At w B A (m.flatMap enc)) (h1 : ∀ y, ∀ u ∈ enc y, u.oneCell' = true)
    (hn : l.length + m.length ≤ 1000000) (hbase : base ≤ w.heap.size)
    (h : ∀ v' w', Own enc size e w' base v' (l ++ m) → w.grownBy w' v.ownBlock → (v'.ownBlock = v.ownBlock ∨ v'.ownBlock = some w.heap.size) → Below base w w' → wpList P ops Q rest (a.put o.dst v') w') :
    wpList P ops Q (o :: rest) a w := by
  obtain ⟨i, hi, hz, hsize, hbytes⟩ := hi
  have hb : (l.length + m.length) * bytes ≤ 140737488355328 := Nat.le_trans (Nat.mul_le_mul hn hby) (by decide)
  have hsplit : (A = none ∧ m.length = 0) ∨ ∃ ad : Addr, A = some ad ∧ ∀ j u, (m.flatMap enc)[j]? = some u → w.cell? (ad.add j) = some u := by
    rcases Nat.eq_zero_or_pos m.length with h0 | h0
    · obtain rfl : m = [] := List.eq_nil_of_length_eq_zero h0
      cases A with
      | none => exact .inl ⟨rfl, rfl⟩
      | some ad => exact .inr ⟨ad, rfl, by simp⟩
    · have hp : 0 < (m.flatMap enc).length := by rw [flat_length enc size hk]; exact Nat.mul_pos h0 hsz
      have he := (hA.ok hp).eq
      refine .inr ⟨_, he, fun j u hj => ?_⟩
      rw [Addr.add_lit]
      exact hA.cell hj
  rcases hsplit with ⟨rfl, h0⟩ | ⟨ad, rfl, hcells⟩
  · obtain rfl : m = [] := List.eq_nil_of_length_eq_zero h0
    refine wpList_plain hgd fun K hK => ?_
    have hr := run_append_nil (P := P) w base t o.type e i size ht hi v l.length _ hown c
    unfold Oper.wp execOp
    simp only [List.length_nil] at hx
    simp only [ho, resolve, invoke, builtin, Sem.run_bind, Sem.run_pure, Result.andThen_ok, List.map_toArray, List.map_cons, List.map_nil, hs, hx, hr]
    exact hK _ _ (h v w (by rw [List.append_nil]; exact hown) (World.grownBy.refl w _) (.inl rfl) (Below.refl _ _))
  · refine wpList_append_own_at w hgd s x t ho base e i z size bytes ht hi hz hsize hbytes hzs hsz v l.length _ hs hown ad m.length c (m.flatMap enc) hx (flat_length enc size hk m) hcells
      (fun u hu => by obtain ⟨y, _, hy⟩ := List.mem_flatMap.1 hu; exact h1 y u hy) (by unfold maxLen; omega) hb hbase ?_
    intro v' w' h2 h3 _ h5
    refine h v' w' ?_ h3 h5 ((Below.refl _ _).grown h3 hbase fun k hk => (World.ownsRow.lt hown k hk).1)
    unfold Own
    rw [List.length_append, List.flatMap_append]
    exact h2
end

section
variable {α : Type} {enc : α → List Value} {size : Nat} {e : TypeId} {w w' : World} {base : Nat} {v : Value} {l : List α}
/-- An empty row, made by a literal. -/
theorem Own.made0 (w : World) (e : TypeId) (hb : base ≤ w.heap.size) : Own enc size e (w.alloc (.cells #[] e)) base (.slice (some ⟨w.heap.size, 0, none⟩) 0 0) [] :=
  World.ownsRow_made w #[] 0 hb (Nat.zero_le _) (by simp)
/-- A row that a literal makes. -/
theorem Own.lit (w : World) (e : TypeId) (cs : Array Value) (l : List α) (hb : base ≤ w.heap.size) (hm : l.length ≤ 1000000) (hk : ∀ x, (enc x).length = size) (hc : cs.toList = l.flatMap enc) :
    Own enc size e (w.alloc (.cells cs e)) base (.slice (some ⟨w.heap.size, 0, none⟩) l.length l.length) l := by
  have hs : cs.size = l.length * size := by rw [← Array.length_toList, hc, flat_length enc size hk]
  have := World.ownsRow_lit (e := e) w cs l.length hb (by unfold maxLen; omega) hs
  rw [hc] at this
  exact this
theorem Own.kept {row : Option Nat} (h : Own enc size e w base v l) (hg : w.grownBy w' row) (hne : v.ownBlock = none ∨ v.ownBlock ≠ row) : Own enc size e w' base v l := World.ownsRow.kept h hg hne
/-- The block in which it lies, its cells and their type. -/
theorem Own.block (h : Own enc size e w base v l) {g : Nat} (hg : v.ownBlock = some g) : ∃ cur, w.heap[g]? = some (.cells cur e (0, 0)) := by
  rcases h.2 with ⟨rfl, _⟩ | ⟨g', cap, cur, rfl, _, hh, _⟩
  · simp [Value.ownBlock] at hg
  · simp [Value.ownBlock] at hg
    subst hg
    exact ⟨cur, hh⟩
theorem Own.some_ (h : Own enc size e w base v l) (hl : 0 < l.length) : ∃ g c, v = .slice (some ⟨g, 0, none⟩) l.length c ∧ base ≤ g ∧ g < w.heap.size := by
  rcases h.2 with ⟨_, h0⟩ | ⟨g, cap, cur, h1, h2, h3, _⟩
  · omega
  · exact ⟨g, cap, h1, h2, (Array.getElem?_eq_some_iff.1 h3).1⟩
/-- Rows whose elements differ in type never share a block. -/
theorem Own.apart {β : Type} {enc' : β → List Value} {size' : Nat} {e' : TypeId} {base' : Nat} {v' : Value} {l' : List β} (h : Own enc size e w base v l) (h' : Own enc' size' e' w base' v' l') (hne : e ≠ e') :
    v.ownBlock = none ∨ v.ownBlock ≠ v'.ownBlock := by
  cases hv : v.ownBlock with
  | none => exact .inl rfl
  | some g =>
    refine .inr fun he => ?_
    obtain ⟨c1, h1⟩ := h.block hv
    obtain ⟨c2, h2⟩ := h'.block he.symm
    rw [h1] at h2
    injection h2 with h2
    injection h2 with _ h3
    exact hne h3
end

/-- Rows of numbers of the call's own: the outer row's elements have type E2, the numbers E1; gs: the rows' blocks. -/
def OwnOnV (E2 E1 : TypeId) (w : World) (base : Nat) (v : Value) (l : List (List Int)) (gs : List Nat) (vs : List Value) : Prop :=
  Own (fun u : Value => [u]) 1 E2 w base v vs ∧ vs.length = l.length ∧ gs.length = l.length ∧ gs.Nodup ∧
    ∀ (i : Nat) (x : List Int), l[i]? = some x → ∃ g c, vs[i]? = some (.slice (some ⟨g, 0, none⟩) x.length c) ∧ gs[i]? = some g ∧ Own cInt 1 E1 w base (.slice (some ⟨g, 0, none⟩) x.length c) x
def OwnOn (E2 E1 : TypeId) (w : World) (base : Nat) (v : Value) (l : List (List Int)) (gs : List Nat) : Prop := ∃ vs, OwnOnV E2 E1 w base v l gs vs

section
variable {E2 E1 : TypeId} {w w' : World} {base : Nat} {v : Value} {l : List (List Int)} {gs : List Nat}
theorem OwnOn.nil : OwnOn E2 E1 w base (.slice none 0 0) [] [] := ⟨[], Own.nil, rfl, rfl, List.nodup_nil, fun i x h => by simp at h⟩
theorem OwnOn.below (h : OwnOn E2 E1 w base v l gs) (hb : Below w.heap.size w w') : OwnOn E2 E1 w' base v l gs :=
  let ⟨vs, h1, h2, h3, h4, h5⟩ := h
  ⟨vs, h1.below hb, h2, h3, h4, fun i x hi => let ⟨g, c, e1, e2, e3⟩ := h5 i x hi; ⟨g, c, e1, e2, e3.below hb⟩⟩
theorem OwnOn.from_ {base' : Nat} (h : OwnOn E2 E1 w base v l gs) (hb : base' ≤ base) : OwnOn E2 E1 w base' v l gs :=
  let ⟨vs, h1, h2, h3, h4, h5⟩ := h
  ⟨vs, h1.from_ hb, h2, h3, h4, fun i x hi => let ⟨g, c, e1, e2, e3⟩ := h5 i x hi; ⟨g, c, e1, e2, e3.from_ hb⟩⟩
theorem OwnOn.drew (h : OwnOn E2 E1 w base v l gs) : OwnOn E2 E1 w.drew base v l gs := h
theorem OwnOn.mem (h : OwnOn E2 E1 w base v l gs) {g : Nat} (hg : g ∈ gs) : base ≤ g ∧ g < w.heap.size := by
  obtain ⟨vs, h1, h2, h3, h4, h5⟩ := h
  obtain ⟨i, hi, rfl⟩ := List.getElem_of_mem hg
  obtain ⟨g, c, e1, e2, e3⟩ := h5 i l[i] (by simp [← h3, hi])
  rw [List.getElem?_eq_getElem hi] at e2
  injection e2 with e2
  rw [e2]
  exact e3.size g rfl
/-- One row more. -/
theorem OwnOnV.push (hE : E1 ≠ E2) {vs : List Value} (h : OwnOnV E2 E1 w base v l gs vs) {w1 w2 : World} {v' : Value} {x : List Int} {g c : Nat} (hw : Below w.heap.size w w1) (hg : w.heap.size ≤ g)
    (hu : Own cInt 1 E1 w1 base (.slice (some ⟨g, 0, none⟩) x.length c) x) (hgrow : w1.grownBy w2 v.ownBlock)
    (hown : Own (fun u : Value => [u]) 1 E2 w2 base v' (vs ++ [.slice (some ⟨g, 0, none⟩) x.length c])) :
    OwnOn E2 E1 w2 base v' (l ++ [x]) (gs ++ [g]) := by
  have hmem := fun g' (hg' : g' ∈ gs) => OwnOn.mem ⟨vs, h⟩ hg'
  obtain ⟨h1, h2, h3, h4, h5⟩ := h
  have keep : ∀ {y : List Int} {g' c' : Nat}, Own cInt 1 E1 w1 base (.slice (some ⟨g', 0, none⟩) y.length c') y → Own cInt 1 E1 w2 base (.slice (some ⟨g', 0, none⟩) y.length c') y :=
    fun hy => hy.kept hgrow (Own.apart hy (h1.below hw) hE)
  refine ⟨_, hown, by simp [h2], by simp [h3], ?_, fun i y hi => ?_⟩
  · rw [List.nodup_append]
    refine ⟨h4, by simp, fun a ha b hb => ?_⟩
    obtain rfl := List.mem_singleton.1 hb
    have := (hmem a ha).2
    omega
  · by_cases hlt : i < l.length
    · rw [List.getElem?_append_left hlt] at hi
      obtain ⟨g', c', e1, e2, e3⟩ := h5 i y hi
      exact ⟨g', c', by rw [List.getElem?_append_left (by omega)]; exact e1, by rw [List.getElem?_append_left (by omega)]; exact e2, keep (e3.below hw)⟩
    · rw [List.getElem?_append_right (by omega)] at hi
      have hi0 : i - l.length = 0 := by
        rcases Nat.eq_zero_or_pos (i - l.length) with h0 | h0
        · exact h0
        · rw [List.getElem?_eq_none (by simp; omega)] at hi; simp at hi
      rw [hi0] at hi
      simp at hi
      subst hi
      exact ⟨g, c, by rw [List.getElem?_append_right (by omega)]; simp [h2, hi0], by rw [List.getElem?_append_right (by omega)]; simp [h3, hi0], keep hu⟩
end
/-- Rows that literals make. -/
theorem SlSl.lit {enc : Int → List Value} (w : World) (e : TypeId) (cs : Array Value) (l : List (List Int)) (hl : cs.toList.length = l.length) (hm : l.length ≤ 1000000)
    (hr : ∀ (i : Nat) (x : List Int), l[i]? = some x → ∃ u, cs.toList[i]? = some u ∧ Sl enc w w.heap.size u x) :
    SlSl enc (w.alloc (.cells cs e)) (w.alloc (.cells cs e)).heap.size (.slice (some ⟨w.heap.size, 0, none⟩) l.length l.length) l := by
  refine ⟨_, _, cs.toList, rfl, by omega, hl, fun _ => ⟨okA_some _ _, by simp [ablk], fun j v hj => ?_⟩, fun i x hi => ?_⟩
  · show (w.alloc (.cells cs e)).cell? ⟨w.heap.size, 0 + j, none⟩ = some v
    rw [Nat.zero_add, World.cell?_alloc_new]
    simpa using hj
  · obtain ⟨u, hu, hs⟩ := hr i x hi
    exact ⟨u, hu, hs.up ((Below.refl _ _).alloc (Nat.le_refl _) _) (by simp)⟩

end Wh
namespace Wh
open Go Go.RowKit

/-- The block g holds just these cells. -/
def Blk (w : World) (g : Nat) (e : TypeId) (cur : List Value) : Prop := w.heap[g]? = some (.cells cur.toArray e (0, 0))
def spl (L : List Value) (o : Nat) (cs : List Value) : List Value := L.take o ++ cs ++ L.drop (o + cs.length)
theorem spl_length {L : List Value} {o : Nat} {cs : List Value} (h : o + cs.length ≤ L.length) : (spl L o cs).length = L.length := by
  unfold spl
  simp only [List.length_append, List.length_take, List.length_drop]
  omega
theorem spl_lo {L : List Value} {o : Nat} {cs : List Value} (h : o ≤ L.length) : (spl L o cs).take o = L.take o := by
  unfold spl
  rw [List.append_assoc, List.take_append_of_le_length (by rw [List.length_take]; omega), List.take_take, Nat.min_self]
theorem spl_hi {L : List Value} {o : Nat} {cs : List Value} (h : o ≤ L.length) : (spl L o cs).take (o + cs.length) = L.take o ++ cs := by
  unfold spl
  rw [List.take_append_of_le_length (by rw [List.length_append, List.length_take]; omega), List.take_of_length_le (by rw [List.length_append, List.length_take]; omega)]

section
variable {w : World} {g : Nat} {e : TypeId} {cur : List Value}
theorem Blk.lt (h : Blk w g e cur) : g < w.heap.size := (Array.getElem?_eq_some_iff.1 h).1
theorem Blk.cell (h : Blk w g e cur) {j : Nat} {v : Value} (hj : cur[j]? = some v) : w.cell? ⟨g, j, none⟩ = some v := by
  unfold Blk at h
  simp [World.cell?, h, hj]
theorem Blk.row (h : Blk w g e cur) (cs : List Value) : Blk (w.setRow g cs.toArray) g e cs := setRow_heap w g _ _ _ _ h
theorem Blk.other (h : Blk w g e cur) {g' : Nat} (hne : g ≠ g') (cs : Array Value) : Blk (w.setRow g' cs) g e cur := by
  unfold Blk at *
  rw [setRow_other w g' g cs hne]
  exact h
theorem Blk.drew (h : Blk w g e cur) : Blk w.drew g e cur := h
theorem Blk.alloc (h : Blk w g e cur) (o : Obj) : Blk (w.alloc o) g e cur := by
  unfold Blk at *
  rw [Below.heap_alloc _ _ _ (Array.getElem?_eq_some_iff.1 h).1]
  exact h
theorem Blk.new (w : World) (e : TypeId) (cs : Array Value) : Blk (w.alloc (.cells cs e)) w.heap.size e cs.toList := by
  show (w.heap.push (.cells cs e))[w.heap.size]? = _
  rw [Array.getElem?_push_size]
theorem Blk.below (h : Blk w g e cur) {B : Nat} {w' : World} (hb : Below B w w') (hg : g < B) : Blk w' g e cur := (hb.block g hg).trans h
theorem Blk.grown (h : Blk w g e cur) {w' : World} {row : Option Nat} (hg : w.grownBy w' row) (hne : some g ≠ row) : Blk w' g e cur := (hg.block g h.lt hne).trans h
theorem Blk.shape (h : Blk w g e cur) : w.shape? g = some (e, cur.length) := by
  unfold Blk at h
  simp [World.shape?, h]
theorem Blk.frozen (h : Blk w g e cur) (o : Nat) : w.frozen? ⟨g, o, none⟩ = false := by
  unfold Blk at h
  simp [World.frozen?, h]
theorem grown_row (w : World) (g : Nat) (cs : Array Value) : w.grownBy (w.setRow g cs) (some g) :=
  ⟨rfl, rfl, rfl, by simp [World.setRow], fun k _ hne => setRow_other w g k cs (fun e => hne (by rw [e]))⟩
theorem below_row {B g : Nat} {w0 w : World} (hb : Below B w0 w) (hBg : B ≤ g) (cs : Array Value) : Below B w0 (w.setRow g cs) :=
  hb.trans ⟨rfl, rfl, rfl, by simp [World.setRow], fun k hk => setRow_other w g k cs (by omega)⟩
end

section
variable {P : Program} (w : World)
theorem run_copy_blk (dT sT ty elem : TypeId) (k g o dLen dCap : Nat) (a : Addr) (sLen sCap : Nat) (cur : List Value) (t : TypeId) (cs : List Value)
    (hu : P.underlying dT = some (.slice elem)) (hs : (P.info? elem).map (·.size) = some k)
    (hg : Blk w g t cur) (n : Nat) (hm : Nat.min sLen dLen = n) (hn : cs.length = n * k)
    (hsrc : ∀ j v, cs[j]? = some v → w.cell? (a.add j) = some v) (hfit : o + cs.length ≤ cur.length) (h1 : ∀ v ∈ cs, v.oneCell' = true) :
    (Builtin.copy_ #[dT, sT] ty #[.slice (some ⟨g, o, none⟩) dLen dCap, .slice (some a) sLen sCap]).run P w =
      .ok (goInt n) (w.setRow g (spl cur o cs).toArray) := by
  have hl := run_firstCells_some (P := P) w k n a sLen sCap cs hn hsrc
  have hst := run_storeCells_at P g o t cs 0 cur.toArray w hg (by simpa using hfit) h1
  cases hq : P.info? elem with
  | none => simp [hq] at hs
  | some i =>
    have hi : i.size = k := by simpa [hq] using hs
    subst hi
    simp only [Builtin.copy_, Sem.run_bind, run_underlying hu, Result.andThen_ok, Builtin.lenOf, Sem.run_pure, Go.sizeOf, typeInfo, List.getElem?_toArray, List.getElem?_cons_zero, List.getElem?_cons_succ, run_program, hq, hm, hl, hst]
    simp [spl]
theorem zeroCells_length (z : Array Value) (n : Nat) : (Builtin.zeroCells z n).size = n * z.size := by simp [Builtin.zeroCells]
theorem zeroCells_one {z : Array Value} (h : ∀ v ∈ z, v.oneCell' = true) (n : Nat) : ∀ v ∈ (Builtin.zeroCells z n).toList, v.oneCell' = true := by
  intro v hv
  simp only [Builtin.zeroCells, Array.toList_map, List.mem_map, Array.mem_toList_iff, Array.mem_range] at hv
  obtain ⟨j, hj, rfl⟩ := hv
  have hz : 0 < z.size := by
    rcases Nat.eq_zero_or_pos z.size with h0 | h0
    · rw [h0] at hj; simp at hj
    · exact h0
  have hjm := Nat.mod_lt j hz
  rw [getElem!_pos z (j % z.size) hjm]
  exact h _ (Array.getElem_mem hjm)
theorem run_clear_blk (t e ty : TypeId) (z : Value) (ht : P.underlying t = some (.slice e)) (hv : ∀ w, (zeroValue e).run P w = .ok z w) (h1 : ∀ v ∈ z.cells, v.oneCell' = true) (g o n c : Nat) (cur : List Value)
    (hg : Blk w g e cur) (hn : 0 < n) (hfit : o + n * z.cells.size ≤ cur.length) :
    (Builtin.clear_ #[t] ty #[.slice (some ⟨g, o, none⟩) n c]).run P w = .ok (.tuple #[]) (w.setRow g (spl cur o (Builtin.zeroCells z.cells n).toList).toArray) := by
  have hst := run_storeCells_at P g o e (Builtin.zeroCells z.cells n).toList 0 cur.toArray w hg (by simpa [zeroCells_length] using hfit) (zeroCells_one h1 n)
  obtain ⟨m, rfl⟩ : ∃ m, n = m + 1 := ⟨n - 1, by omega⟩
  simp only [Builtin.clear_, Sem.run_bind, List.getElem?_toArray, List.getElem?_cons_zero, run_underlying ht, Result.andThen_ok, hv, hst]
  simp [spl]

theorem step_copy_at {ops : Array Oper} {o : Oper} {a : Act} {K : Act → World → Prop} {Q : Exit → Act → World → Prop} {E : Prop}
    (hg : o.guard = none) (d x : Operand) (dT sT : TypeId) (hop : o.op = Op.call { callee := Callee.builtin Builtin.copy, args := #[d, x], argTypes := #[dT, sT] })
    (v u : Value) (hd : a.eval d = v) (hx : a.eval x = u) {v' : Value} {w' : World} (hr : (Builtin.copy_ #[dT, sT] o.type #[v, u]).run P w = .ok v' w') (hK : K (a.put o.dst v') w') :
    if Region.wanted o (yielded ops a.tmps) = true then Oper.wp P o a w K Q else E := by
  have hw : Region.wanted o (yielded ops a.tmps) = true := by simp [Region.wanted, hg]
  rw [if_pos hw]
  unfold Oper.wp
  simp [execOp, hop, resolve, invoke, builtin, hd, hx, hr, Result.andThen]
  exact hK
theorem wpList_copy_at {ops : Array Oper} {rest : List Oper} {o : Oper} {a : Act} {Q : Exit → Act → World → Prop} (hgd : o.guard = none) (d s : Operand) (t t' : TypeId)
    (ho : o.op = .call { callee := .builtin .copy, args := #[d, s], argTypes := #[t, t'] }) (v u : Value) (hd : a.eval d = v) (hs : a.eval s = u) {v' : Value} {w' : World}
    (hr : (Builtin.copy_ #[t, t'] o.type #[v, u]).run P w = .ok v' w') (h : wpList P ops Q rest (a.put o.dst v') w') : wpList P ops Q (o :: rest) a w :=
  wpList_plain hgd fun K hK => by
    unfold Oper.wp execOp
    simp only [ho, resolve, invoke, builtin, Sem.run_bind, Sem.run_pure, Result.andThen_ok, List.map_toArray, List.map_cons, List.map_nil, hd, hs, hr]
    exact hK _ _ h
end

theorem flat_take {α : Type} (enc : α → List Value) (k : Nat) (hk : ∀ x, (enc x).length = k) : ∀ (l : List α) (i : Nat), (l.flatMap enc).take (i * k) = (l.take i).flatMap enc
  | [], i => by simp
  | x :: l, 0 => by simp
  | x :: l, i + 1 => by
    rw [List.flatMap_cons, List.take_succ_cons, List.flatMap_cons, ← flat_take enc k hk l i, List.take_append, List.take_of_length_le (by rw [hk, Nat.add_mul]; omega), hk]
    congr 2
    rw [Nat.add_mul]; omega
theorem flat_drop {α : Type} (enc : α → List Value) (k : Nat) (hk : ∀ x, (enc x).length = k) : ∀ (l : List α) (i : Nat), (l.flatMap enc).drop (i * k) = (l.drop i).flatMap enc
  | [], i => by simp
  | x :: l, 0 => by simp
  | x :: l, i + 1 => by
    rw [List.flatMap_cons, List.drop_succ_cons, ← flat_drop enc k hk l i, List.drop_append, List.drop_of_length_le (by rw [hk, Nat.add_mul]; omega), hk, List.nil_append]
    congr 1
    rw [Nat.add_mul]; omega

section
variable {α : Type} {enc : α → List Value} {size : Nat} {e : TypeId} {w : World} {base : Nat} {v : Value} {l : List α}
theorem Own.row (h : Own enc size e w base v l) (hl : 0 < l.length) :
    ∃ g cap cur, v = .slice (some ⟨g, 0, none⟩) l.length cap ∧ base ≤ g ∧ Blk w g e cur ∧ l.length ≤ cap ∧ cap ≤ maxLen ∧ cur.length = cap * size ∧ cur.take (l.length * size) = l.flatMap enc := by
  rcases h.2 with ⟨_, h0⟩ | ⟨g, cap, cur, h1, h2, h3, h4, h5, h6, h7⟩
  · omega
  · exact ⟨g, cap, cur.toList, h1, h2, by unfold Blk; simpa using h3, h4, h5, by simpa using h6, h7⟩
theorem Own.of_row (hk : ∀ x, (enc x).length = size) {g cap : Nat} {cur : List Value} (hb : base ≤ g) (hg : Blk w g e cur) (h1 : l.length ≤ cap) (h2 : cap ≤ maxLen) (h3 : cur.length = cap * size) (h4 : cur.take (l.length * size) = l.flatMap enc) :
    Own enc size e w base (.slice (some ⟨g, 0, none⟩) l.length cap) l :=
  ⟨flat_length enc size hk l, .inr ⟨g, cap, cur.toArray, rfl, hb, hg, h1, h2, by simpa using h3, by simpa using h4⟩⟩
end

theorem flat_set {α : Type} (enc : α → List Value) (k : Nat) (hk : ∀ x, (enc x).length = k) {l : List α} {i j : Nat} (hi : i < l.length) (hj : j < k) {y : α} {u : Value} (hy : enc y = (enc l[i]).set j u) : (l.set i y).flatMap enc = (l.flatMap enc).set (i * k + j) u := by
  induction l generalizing i with
  | nil => simp at hi
  | cons x l ih =>
    cases i with
    | zero =>
      simp only [List.set_cons_zero, List.flatMap_cons, Nat.zero_mul, Nat.zero_add]
      simp only [List.getElem_cons_zero] at hy
      rw [hy, List.set_append_left _ _ (by rw [hk]; exact hj)]
    | succ i =>
      simp only [List.set_cons_succ, List.flatMap_cons]
      simp only [List.getElem_cons_succ] at hy
      rw [ih (by simpa using hi) hy, List.set_append_right _ _ (by rw [hk, Nat.add_mul]; omega), hk]
      congr 2
      rw [Nat.add_mul]; omega
theorem Own.store {α : Type} {enc : α → List Value} {size : Nat} {e : TypeId} {w : World} {base : Nat} {l : List α} {g n c : Nat} (h : Own enc size e w base (.slice (some ⟨g, 0, none⟩) n c) l) (hk : ∀ x, (enc x).length = size)
    {i j : Nat} (hi : i < l.length) (hj : j < size) {y : α} {u : Value} (hy : enc y = (enc l[i]).set j u) :
    Own enc size e (w.setCell ⟨g, i * size + j, none⟩ u) base (.slice (some ⟨g, 0, none⟩) n c) (l.set i y) ∧ w.grownBy (w.setCell ⟨g, i * size + j, none⟩ u) (some g) := by
  obtain ⟨A, c', hv⟩ := h.isSlice
  injection hv with h1 h2 h3
  subst h2
  obtain ⟨s1, s2⟩ := World.ownsRow.stored h (i * size + j) u
  refine ⟨?_, s2⟩
  unfold Own
  rw [List.length_set, flat_set enc size hk hi hj hy]
  exact s1
/-- The cells of a block that was just made. -/
theorem cells_new (w : World) (cs : Array Value) (e : TypeId) : ∀ j u, cs.toList[j]? = some u → (w.alloc (.cells cs e)).cell? ((⟨w.heap.size, 0, none⟩ : Addr).add j) = some u := fun j u hj => by
  rw [Addr.add_lit, Nat.zero_add]
  exact (Blk.new w e cs).cell hj
end Wh
