/- Texts of the claim, joined: PlainA, Own. -/
import Derived.Test.YtfhfkijmebhgmaaGreatQ01
namespace Wh

/-- The plan of the examples. -/
def yardP : Plan := ⟨[⟨false, 100, 0, 0⟩, ⟨true, 30, 4, 8⟩, ⟨false, 60, 0, 0⟩], [2, 3]⟩
-- the first at which something holds
def idxOf {α : Type} (p : α → Bool) (l : List α) : Int := if l.any p then (l.findIdx p : Int) else -1
theorem idxOf_at {α : Type} {p : α → Bool} {l : List α} {k : Nat} (hk : k < l.length) (h : p l[k] = true) (hn : ∀ j (hj : j < k), p (l[j]'(by omega)) = false) : (k : Int) = idxOf p l := by
  unfold idxOf
  rw [if_pos (List.any_eq_true.2 ⟨l[k], List.getElem_mem hk, h⟩), (List.findIdx_eq hk).2 ⟨h, hn⟩]
theorem idxOf_none {α : Type} {p : α → Bool} {l : List α} (hn : ∀ j (hj : j < l.length), p l[j] = false) : (-1 : Int) = idxOf p l := by
  unfold idxOf
  rw [if_neg]
  rw [List.any_eq_true]
  rintro ⟨x, hx, h⟩
  obtain ⟨j, hj, rfl⟩ := List.getElem_of_mem hx
  rw [hn j hj] at h
  exact absurd h (by decide)
theorem idxOf_any {α : Type} (p : α → Bool) (l : List α) : decide (0 ≤ idxOf p l) = l.any p := by
  unfold idxOf
  cases h : l.any p
  · simp
  · simp

-- the least and the greatest of the first numbers
def minTo (f : Nat → Int) : Nat → Int
  | 0 => f 0
  | k + 1 => min (minTo f k) (f (k + 1))
def maxTo (f : Nat → Int) : Nat → Int
  | 0 => f 0
  | k + 1 => max (maxTo f k) (f (k + 1))
theorem le_minTo {f : Nat → Int} {lo : Int} : ∀ {k : Nat}, lo ≤ minTo f k ↔ ∀ j, j ≤ k → lo ≤ f j
  | 0 => ⟨fun h j hj => by obtain rfl : j = 0 := by omega
                           exact h, fun h => h 0 (Nat.le_refl _)⟩
  | k + 1 => by
    have ih := @le_minTo f lo k
    rw [minTo, Int.le_min]
    constructor
    · rintro ⟨h1, h2⟩ j hj
      by_cases he : j = k + 1
      · subst he; exact h2
      · exact ih.1 h1 j (by omega)
    · exact fun h => ⟨ih.2 fun j hj => h j (by omega), h _ (Nat.le_refl _)⟩
theorem maxTo_le {f : Nat → Int} {hi : Int} : ∀ {k : Nat}, maxTo f k ≤ hi ↔ ∀ j, j ≤ k → f j ≤ hi
  | 0 => ⟨fun h j hj => by obtain rfl : j = 0 := by omega
                           exact h, fun h => h 0 (Nat.le_refl _)⟩
  | k + 1 => by
    have ih := @maxTo_le f hi k
    rw [maxTo, Int.max_le]
    constructor
    · rintro ⟨h1, h2⟩ j hj
      by_cases he : j = k + 1
      · subst he; exact h2
      · exact ih.1 h1 j (by omega)
    · exact fun h => ⟨ih.2 fun j hj => h j (by omega), h _ (Nat.le_refl _)⟩
def lowest (l : List Int) : Int := minTo (intAt l) (l.length - 1)
def greatest (l : List Int) : Int := maxTo (intAt l) (l.length - 1)

-- chapter 1
theorem kinds_pairwise (p : Plan) (f : Bool) : (kinds p f).Pairwise (· < ·) :=
  List.Pairwise.filter _ List.pairwise_lt_range
theorem kindsTo_yes {p : Plan} {f : Bool} {k : Nat} (h : (binAt p.bins k).front = f) : kindsTo p f (k + 1) = kindsTo p f k ++ [k] := by
  unfold kindsTo Plan.bin
  rw [List.range_succ, List.filter_append]
  simp [h]
theorem kindsTo_no {p : Plan} {f : Bool} {k : Nat} (h : (binAt p.bins k).front ≠ f) : kindsTo p f (k + 1) = kindsTo p f k := by
  unfold kindsTo Plan.bin
  rw [List.range_succ, List.filter_append]
  simp [h]
theorem kindsTo_length (p : Plan) (f : Bool) (k : Nat) : (kindsTo p f k).length ≤ k := by
  unfold kindsTo
  exact Nat.le_trans (List.length_filter_le _ _) (by simp)
theorem nats_length (l : List Nat) : (nats l).length = l.length := by simp [nats]
theorem mem_kinds {p : Plan} {f : Bool} {b : Nat} : b ∈ kinds p f ↔ b < p.bins.length ∧ (p.bin b).front = f := by
  simp [kinds]
theorem kinds_length (p : Plan) : (kinds p true).length + (kinds p false).length = p.bins.length := by
  have h : ∀ l : List Nat, (l.filter fun b => (p.bin b).front == true).length + (l.filter fun b => (p.bin b).front == false).length = l.length := by
    intro l
    induction l with
    | nil => rfl
    | cons x l ih => cases hx : (p.bin x).front <;> simp [hx] at ih ⊢ <;> omega
  rw [kinds, kinds, h, List.length_range]
theorem way_length (p : Plan) : (way p).length = p.bins.length := by
  rw [way, List.length_append, kinds_length]
theorem mem_way {p : Plan} {b : Nat} : b ∈ way p ↔ b < p.bins.length := by
  rw [way, List.mem_append, mem_kinds, mem_kinds]
  cases (p.bin b).front <;> simp
theorem way_pairwise (p : Plan) : (way p).Pairwise fun a b => a ≠ b ∧ ((p.bin b).front = true → (p.bin a).front = true) ∧ ((p.bin a).front = (p.bin b).front → a < b) := by
  rw [way, List.pairwise_append]
  refine ⟨?_, ?_, ?_⟩
  · refine List.Pairwise.imp_of_mem ?_ (kinds_pairwise p true)
    intro a b ha hb h
    rw [mem_kinds] at ha hb
    exact ⟨by omega, fun _ => ha.2, fun _ => h⟩
  · refine List.Pairwise.imp_of_mem ?_ (kinds_pairwise p false)
    intro a b ha hb h
    rw [mem_kinds] at ha hb
    exact ⟨by omega, fun h' => absurd h' (by rw [hb.2]; decide), fun _ => h⟩
  · intro a ha b hb
    rw [mem_kinds] at ha hb
    refine ⟨?_, fun h' => absurd h' (by rw [hb.2]; decide), fun h' => absurd h' (by rw [ha.2, hb.2]; decide)⟩
    rintro rfl
    rw [ha.2] at hb
    exact absurd hb.2 (by decide)
-- sums
theorem sumTo_congr {f g : Nat → Int} {n : Nat} (h : ∀ k, k < n → f k = g k) : sumTo f n = sumTo g n := by
  induction n with
  | zero => rfl
  | succ n ih => rw [sumTo, sumTo, ih (fun k hk => h k (by omega)), h n (by omega)]
theorem sumTo_one {f g : Nat → Int} {n i : Nat} {d : Int} (hi : i < n) (h : ∀ k, k < n → k ≠ i → g k = f k) (hd : g i = f i + d) : sumTo g n = sumTo f n + d := by
  induction n with
  | zero => omega
  | succ n ih =>
    rw [sumTo, sumTo]
    rcases Nat.lt_succ_iff_lt_or_eq.1 hi with hlt | rfl
    · rw [ih hlt (fun k hk hne => h k (by omega) hne), h n (by omega) (by omega)]
      omega
    · rw [sumTo_congr (fun k hk => h k (by omega) (by omega)), hd]
      omega
theorem sumTo_bounds {f : Nat → Int} {n : Nat} {m : Int} (h : ∀ k, k < n → 0 ≤ f k ∧ f k ≤ m) : 0 ≤ sumTo f n ∧ sumTo f n ≤ n * m := by
  induction n with
  | zero => simp [sumTo]
  | succ n ih =>
    have h1 := ih (fun k hk => h k (by omega))
    have h2 := h n (by omega)
    have h3 : ((n + 1 : Nat) : Int) * m = n * m + m := by rw [Int.natCast_add, Int.add_mul]; simp
    rw [sumTo, h3]
    omega

-- rows
theorem intAt_eq {l : List Int} {i : Nat} (h : i < l.length) : intAt l i = l[i] := by simp [intAt, h]
theorem rowAt_eq {l : List (List Int)} {i : Nat} (h : i < l.length) : rowAt l i = l[i] := by simp [rowAt, h]
theorem lineAt_eq {l : List Line} {i : Nat} (h : i < l.length) : lineAt l i = l[i] := by simp [lineAt, h]
theorem moveAt_eq {l : List Move} {i : Nat} (h : i < l.length) : moveAt l i = l[i] := by simp [moveAt, h]
theorem orderAt_eq {l : List Order} {i : Nat} (h : i < l.length) : orderAt l i = l[i] := by simp [orderAt, h]
theorem intAt_set {l : List Int} {i j : Nat} {n : Int} (h : i < l.length) : intAt (l.set i n) j = if j = i then n else intAt l j := by
  unfold intAt
  simp only [List.getD_eq_getElem?_getD]
  by_cases hj : j = i
  · subst hj
    rw [if_pos rfl, List.getElem?_set_self h]
    rfl
  · rw [if_neg hj, List.getElem?_set_ne (Ne.symm hj)]
theorem rowAt_set {l : List (List Int)} {i j : Nat} {r : List Int} (h : i < l.length) : rowAt (l.set i r) j = if j = i then r else rowAt l j := by
  unfold rowAt
  simp only [List.getD_eq_getElem?_getD]
  by_cases hj : j = i
  · subst hj
    rw [if_pos rfl, List.getElem?_set_self h]
    rfl
  · rw [if_neg hj, List.getElem?_set_ne (Ne.symm hj)]
theorem cell_set {on : List (List Int)} {b g b' g' : Nat} {n : Int} (hb : b < on.length) (hg : g < (rowAt on b).length) :
    cell (setCell on b g n) b' g' = if b' = b ∧ g' = g then n else cell on b' g' := by
  unfold cell setCell
  rw [rowAt_set hb]
  by_cases h1 : b' = b
  · subst h1
    rw [if_pos rfl, intAt_set hg]
    simp only [true_and]
  · rw [if_neg h1, if_neg (fun h => h1 h.1)]
theorem length_setCell {on : List (List Int)} {b g : Nat} {n : Int} : (setCell on b g n).length = on.length := by simp [setCell]
theorem rowlen_setCell {on : List (List Int)} {b g i : Nat} {n : Int} : (rowAt (setCell on b g n) i).length = (rowAt on i).length := by
  unfold setCell
  by_cases hb : b < on.length
  · rw [rowAt_set hb]
    split
    · rename_i h; subst h; simp
    · rfl
  · rw [List.set_eq_of_length_le (by omega)]
theorem within_iff {n lo hi : Int} : within n lo hi = true ↔ lo ≤ n ∧ n ≤ hi := by simp [within]
theorem within_false {n lo hi : Int} : within n lo hi = false ↔ n < lo ∨ hi < n := by
  have := @within_iff n lo hi
  cases h : within n lo hi <;> simp [h] at this ⊢ <;> omega
theorem isBin_iff {p : Plan} {b : Int} : isBin p b = true ↔ 0 ≤ b ∧ b < p.bins.length := by rw [isBin, within_iff]; omega
theorem isGood_iff {p : Plan} {g : Int} : isGood p g = true ↔ 0 ≤ g ∧ g < p.sizes.length := by rw [isGood, within_iff]; omega
/-- A right shelf, by its cells. -/
theorem shelfOk_iff {p : Plan} {on : List (List Int)} : shelfOk p on = true ↔
    on.length = p.bins.length ∧ ∀ b, b < on.length → (rowAt on b).length = p.sizes.length ∧ ∀ g, g < p.sizes.length → 0 ≤ cell on b g ∧ cell on b g ≤ 200 := by
  simp only [shelfOk, Bool.and_eq_true, decide_eq_true_eq, List.all_eq_true, rowOk]
  constructor
  · rintro ⟨h1, h2⟩
    refine ⟨h1, fun b hb => ?_⟩
    obtain ⟨h3, h4⟩ := h2 on[b] (List.getElem_mem hb)
    unfold cell
    rw [rowAt_eq hb]
    refine ⟨h3, fun g hg => ?_⟩
    have h5 := h4 on[b][g] (List.getElem_mem (by omega))
    rw [within_iff] at h5
    rw [intAt_eq (by omega)]
    exact h5
  · rintro ⟨h1, h2⟩
    refine ⟨h1, fun row hr => ?_⟩
    obtain ⟨b, hb, rfl⟩ := List.getElem_of_mem hr
    obtain ⟨h3, h4⟩ := h2 b hb
    unfold cell at h4
    rw [rowAt_eq hb] at h3 h4
    refine ⟨h3, fun x hx => ?_⟩
    obtain ⟨g, hg, rfl⟩ := List.getElem_of_mem hx
    have h5 := h4 g (by omega)
    rw [intAt_eq hg] at h5
    rw [within_iff]
    exact h5
theorem checkShelf_zero {p : Plan} {on : List (List Int)} : checkShelf p on = 0 ↔ checkPlan p = 0 ∧ shelfOk p on = true := by
  unfold checkShelf
  by_cases h : checkPlan p = 0
  · simp [h]
  · simp [h]
theorem shelfError_zero {p : Plan} {on : List (List Int)} {b g : Int} : shelfError p on b g = 0 ↔ checkShelf p on = 0 ∧ isBin p b = true ∧ isGood p g = true := by
  unfold shelfError
  by_cases h : checkShelf p on = 0
  · simp only [h, ne_eq, not_true_eq_false, ite_false, true_and, Bool.and_eq_true]
    split <;> simp_all
  · simp [h]
theorem checkPlan_zero {p : Plan} : checkPlan p = 0 ↔ (1 ≤ p.bins.length ∧ p.bins.length ≤ 6) ∧ (1 ≤ p.sizes.length ∧ p.sizes.length ≤ 3) ∧ (∀ b ∈ p.bins, binOk b = true) ∧ ∀ x ∈ p.sizes, sizeOk x = true := by
  unfold checkPlan
  by_cases h1 : (within p.bins.length 1 6 && within p.sizes.length 1 3) = true
  · simp only [h1, Bool.not_true, Bool.false_eq_true, ite_false]
    simp only [Bool.and_eq_true, within_iff] at h1
    by_cases h2 : (p.bins.all binOk && p.sizes.all sizeOk) = true
    · simp only [h2, Bool.not_true, Bool.false_eq_true, ite_false, true_iff]
      simp only [Bool.and_eq_true, List.all_eq_true] at h2
      exact ⟨by omega, by omega, h2.1, h2.2⟩
    · simp only [Bool.not_eq_true] at h2
      simp only [h2, Bool.not_false, ite_true]
      constructor
      · intro h; omega
      · rintro ⟨_, _, h3, h4⟩
        simp [List.all_eq_true.2 h3, List.all_eq_true.2 h4] at h2
  · simp only [Bool.not_eq_true] at h1
    simp only [h1, Bool.not_false, ite_true]
    constructor
    · intro h; omega
    · rintro ⟨h3, h4, _⟩
      have : (within p.bins.length 1 6 && within p.sizes.length 1 3) = true := by
        simp only [Bool.and_eq_true, within_iff]; omega
      rw [this] at h1
      exact absurd h1 (by decide)

theorem binAt_eq {l : List Bin} {i : Nat} (h : i < l.length) : binAt l i = l[i] := by simp [binAt, h]
theorem checkPlan_two {p : Plan} (h : within p.bins.length 1 6 = false ∨ within p.sizes.length 1 3 = false) : checkPlan p = 2 := by
  unfold checkPlan
  rcases h with h | h <;> simp [h]
theorem checkPlan_size {p : Plan} (h1 : within p.bins.length 1 6 = true) (h2 : within p.sizes.length 1 3 = true) {k : Nat} (hk : k < p.sizes.length) (h : sizeOk (intAt p.sizes k) = false) : checkPlan p = 3 := by
  unfold checkPlan
  rw [h1, h2]
  have : (p.sizes.all sizeOk) = false := by
    rw [List.all_eq_false]
    exact ⟨p.sizes[k], List.getElem_mem hk, by rw [intAt_eq hk] at h; rw [h]; decide⟩
  simp [this]
theorem checkPlan_ok {p : Plan} (h1 : within p.bins.length 1 6 = true) (h2 : within p.sizes.length 1 3 = true) (h3 : ∀ k, k < p.bins.length → binOk (binAt p.bins k) = true) (h4 : ∀ k, k < p.sizes.length → sizeOk (intAt p.sizes k) = true) : checkPlan p = 0 := by
  rw [within_iff] at h1 h2
  rw [checkPlan_zero]
  refine ⟨by omega, by omega, fun b hb => ?_, fun x hx => ?_⟩
  · obtain ⟨i, hi, rfl⟩ := List.getElem_of_mem hb
    have := h3 i hi
    rwa [binAt_eq hi] at this
  · obtain ⟨i, hi, rfl⟩ := List.getElem_of_mem hx
    have := h4 i hi
    rwa [intAt_eq hi] at this
theorem binOk_parts (b : Bin) : (within b.room 0 1000 = false ∧ binOk b = false) ∨ (within b.room 0 1000 = true ∧ within b.high 0 200 = false ∧ binOk b = false) ∨
    (within b.room 0 1000 = true ∧ within b.high 0 200 = true ∧ within b.low 0 b.high = false ∧ binOk b = false) ∨ (within b.room 0 1000 = true ∧ within b.high 0 200 = true ∧ within b.low 0 b.high = true ∧ binOk b = true) := by
  unfold binOk
  cases within b.room 0 1000 <;> cases within b.high 0 200 <;> cases within b.low 0 b.high <;> simp

theorem any_bad (p : Plan) : (p.bins.any fun b => !binOk b) = !(p.bins.all binOk) := by
  rw [List.not_all_eq_any_not]
theorem checkPlan_bad {p : Plan} (h1 : within p.bins.length 1 6 = true) (h2 : within p.sizes.length 1 3 = true) (h : (p.bins.any fun b => !binOk b) = true) : checkPlan p = 3 := by
  unfold checkPlan
  rw [any_bad, Bool.not_eq_true'] at h
  rw [h1, h2, h]
  simp
theorem checkPlan_lowest {p : Plan} (h1 : within p.bins.length 1 6 = true) (h2 : within p.sizes.length 1 3 = true) (h : lowest p.sizes < 1) : checkPlan p = 3 := by
  have h2' := within_iff.1 h2
  by_cases hex : ∃ k, k < p.sizes.length ∧ sizeOk (intAt p.sizes k) = false
  · obtain ⟨k, hk, hk'⟩ := hex
    exact checkPlan_size h1 h2 hk hk'
  · exfalso
    have hall : ∀ k, k < p.sizes.length → 1 ≤ intAt p.sizes k := fun k hk => by
      by_cases hs : sizeOk (intAt p.sizes k) = true
      · unfold sizeOk at hs; rw [within_iff] at hs; exact hs.1
      · exact absurd ⟨k, hk, by simpa using hs⟩ hex
    have := (le_minTo (f := intAt p.sizes) (lo := 1) (k := p.sizes.length - 1)).2 fun j hj => hall j (by omega)
    unfold lowest at h
    omega
theorem checkPlan_greatest {p : Plan} (h1 : within p.bins.length 1 6 = true) (h2 : within p.sizes.length 1 3 = true) (h : 9 < greatest p.sizes) : checkPlan p = 3 := by
  have h2' := within_iff.1 h2
  by_cases hex : ∃ k, k < p.sizes.length ∧ sizeOk (intAt p.sizes k) = false
  · obtain ⟨k, hk, hk'⟩ := hex
    exact checkPlan_size h1 h2 hk hk'
  · exfalso
    have hall : ∀ k, k < p.sizes.length → intAt p.sizes k ≤ 9 := fun k hk => by
      by_cases hs : sizeOk (intAt p.sizes k) = true
      · unfold sizeOk at hs; rw [within_iff] at hs; exact hs.2
      · exact absurd ⟨k, hk, by simpa using hs⟩ hex
    have := (maxTo_le (f := intAt p.sizes) (hi := 9) (k := p.sizes.length - 1)).2 fun j hj => hall j (by omega)
    unfold greatest at h
    omega
theorem checkPlan_good {p : Plan} (h1 : within p.bins.length 1 6 = true) (h2 : within p.sizes.length 1 3 = true) (h : (p.bins.any fun b => !binOk b) = false) (h3 : 1 ≤ lowest p.sizes) (h4 : greatest p.sizes ≤ 9) : checkPlan p = 0 := by
  have h2' := within_iff.1 h2
  rw [any_bad, Bool.not_eq_false'] at h
  refine checkPlan_ok h1 h2 (fun k hk => ?_) fun k hk => ?_
  · rw [binAt_eq hk]; exact List.all_eq_true.1 h _ (List.getElem_mem hk)
  · unfold sizeOk
    rw [within_iff]
    exact ⟨(le_minTo.1 h3) k (by omega), (maxTo_le.1 h4) k (by omega)⟩
theorem binOk_bad (b : Bin) : (within b.room 0 1000 = false ∧ binOk b = false) ∨ (within b.room 0 1000 = true ∧ 200 < b.high ∧ binOk b = false) ∨
    (within b.room 0 1000 = true ∧ b.high ≤ 200 ∧ within b.low 0 b.high = false ∧ binOk b = false) ∨ (within b.room 0 1000 = true ∧ b.high ≤ 200 ∧ within b.low 0 b.high = true ∧ binOk b = true) := by
  rcases binOk_parts b with ⟨h1, h2⟩ | ⟨h1, h2, h3⟩ | ⟨h1, h2, h3, h4⟩ | ⟨h1, h2, h3, h4⟩
  · exact .inl ⟨h1, h2⟩
  · rw [within_false] at h2
    by_cases hh : 200 < b.high
    · exact .inr (.inl ⟨h1, hh, h3⟩)
    · exact .inr (.inr (.inl ⟨h1, by omega, by rw [within_false]; omega, h3⟩))
  · rw [within_iff] at h2
    exact .inr (.inr (.inl ⟨h1, h2.2, h3, h4⟩))
  · rw [within_iff] at h2
    exact .inr (.inr (.inr ⟨h1, h2.2, h3, h4⟩))

theorem rowOk_bad {p : Plan} (row : List Int) (hn : 0 < p.sizes.length) : (row.length ≠ p.sizes.length ∧ rowOk p row = false) ∨ (row.length = p.sizes.length ∧ lowest row < 0 ∧ rowOk p row = false) ∨
    (row.length = p.sizes.length ∧ 0 ≤ lowest row ∧ 200 < greatest row ∧ rowOk p row = false) ∨ (row.length = p.sizes.length ∧ 0 ≤ lowest row ∧ greatest row ≤ 200 ∧ rowOk p row = true) := by
  by_cases h1 : row.length = p.sizes.length
  · have key : rowOk p row = true ↔ 0 ≤ lowest row ∧ greatest row ≤ 200 := by
      unfold rowOk lowest greatest
      simp only [h1, decide_true, Bool.true_and, List.all_eq_true]
      rw [le_minTo, maxTo_le]
      constructor
      · intro h
        exact ⟨fun j hj => by rw [intAt_eq (by omega)]; exact (within_iff.1 (h _ (List.getElem_mem _))).1, fun j hj => by rw [intAt_eq (by omega)]; exact (within_iff.1 (h _ (List.getElem_mem _))).2⟩
      · rintro ⟨h2, h3⟩ x hx
        obtain ⟨j, hj, rfl⟩ := List.getElem_of_mem hx
        rw [within_iff]
        have := h2 j (by omega)
        have := h3 j (by omega)
        rw [intAt_eq hj] at *
        omega
    by_cases h2 : lowest row < 0
    · exact .inr (.inl ⟨h1, h2, by rw [← Bool.not_eq_true, key]; omega⟩)
    · by_cases h3 : 200 < greatest row
      · exact .inr (.inr (.inl ⟨h1, by omega, h3, by rw [← Bool.not_eq_true, key]; omega⟩))
      · exact .inr (.inr (.inr ⟨h1, by omega, by omega, key.2 ⟨by omega, by omega⟩⟩))
  · exact .inl ⟨h1, by unfold rowOk; simp [h1]⟩
theorem rowOk_all {p : Plan} {row : List Int} (hl : row.length = p.sizes.length) (h : ∀ j, j < row.length → within (intAt row j) 0 200 = true) : rowOk p row = true := by
  unfold rowOk
  rw [hl, decide_eq_true rfl, Bool.true_and, List.all_eq_true]
  intro x hx
  obtain ⟨j, hj, rfl⟩ := List.getElem_of_mem hx
  have := h j hj
  rwa [intAt_eq hj] at this
theorem any_badRow (p : Plan) (on : List (List Int)) : (on.any fun r => !rowOk p r) = !(on.all (rowOk p)) := by
  rw [List.not_all_eq_any_not]
theorem checkShelf_plan {p : Plan} {on : List (List Int)} (h : checkPlan p ≠ 0) : checkShelf p on = checkPlan p := by
  unfold checkShelf
  rw [if_pos h]
theorem checkShelf_len {p : Plan} {on : List (List Int)} (h : checkPlan p = 0) (hl : on.length ≠ p.bins.length) : checkShelf p on = 1 := by
  unfold checkShelf shelfOk
  simp [h, hl]
theorem checkShelf_bad {p : Plan} {on : List (List Int)} (h : checkPlan p = 0) (hb : (on.any fun r => !rowOk p r) = true) : checkShelf p on = 1 := by
  rw [any_badRow, Bool.not_eq_true'] at hb
  unfold checkShelf shelfOk
  simp [h, hb]
theorem checkShelf_good {p : Plan} {on : List (List Int)} (h : checkPlan p = 0) (hl : on.length = p.bins.length) (hb : (on.any fun r => !rowOk p r) = false) : checkShelf p on = 0 := by
  rw [any_badRow, Bool.not_eq_false'] at hb
  unfold checkShelf shelfOk
  simp [h, hl, hb]
theorem checkShelf_all {p : Plan} {on : List (List Int)} (h : checkPlan p = 0) (hl : on.length = p.bins.length) (hb : ∀ k, k < on.length → rowOk p (rowAt on k) = true) : checkShelf p on = 0 := by
  refine checkShelf_good h hl ?_
  rw [any_badRow, Bool.not_eq_false', List.all_eq_true]
  intro r hr
  obtain ⟨k, hk, rfl⟩ := List.getElem_of_mem hr
  have := hb k hk
  rwa [rowAt_eq hk] at this

/-- What a right shelf and a right plan give of each cell and size. -/
theorem right_cell {p : Plan} {on : List (List Int)} (h : checkShelf p on = 0) {b g : Nat} (hb : b < on.length) (hg : g < p.sizes.length) : 0 ≤ cell on b g ∧ cell on b g ≤ 200 :=
  ((shelfOk_iff.1 (checkShelf_zero.1 h).2).2 b hb).2 g hg
theorem right_row {p : Plan} {on : List (List Int)} (h : checkShelf p on = 0) {b : Nat} (hb : b < on.length) : (rowAt on b).length = p.sizes.length :=
  ((shelfOk_iff.1 (checkShelf_zero.1 h).2).2 b hb).1
theorem right_len {p : Plan} {on : List (List Int)} (h : checkShelf p on = 0) : on.length = p.bins.length := (shelfOk_iff.1 (checkShelf_zero.1 h).2).1
theorem right_size {p : Plan} (h : checkPlan p = 0) {g : Nat} (hg : g < p.sizes.length) : 1 ≤ intAt p.sizes g ∧ intAt p.sizes g ≤ 9 := by
  have h1 := (checkPlan_zero.1 h).2.2.2 p.sizes[g] (List.getElem_mem hg)
  unfold sizeOk at h1
  rw [within_iff] at h1
  rw [intAt_eq hg]
  exact h1
theorem right_bin {p : Plan} (h : checkPlan p = 0) {b : Nat} (hb : b < p.bins.length) : (0 ≤ (binAt p.bins b).room ∧ (binAt p.bins b).room ≤ 1000) ∧ (0 ≤ (binAt p.bins b).low ∧ (binAt p.bins b).low ≤ (binAt p.bins b).high) ∧ (0 ≤ (binAt p.bins b).high ∧ (binAt p.bins b).high ≤ 200) := by
  have h1 := (checkPlan_zero.1 h).2.2.1 p.bins[b] (List.getElem_mem hb)
  rw [← binAt_eq hb] at h1
  simp only [binOk, Bool.and_eq_true, within_iff] at h1
  exact ⟨h1.1.1, h1.2, h1.1.2⟩
theorem right_counts {p : Plan} (h : checkPlan p = 0) : 1 ≤ p.bins.length ∧ p.bins.length ≤ 6 ∧ 1 ≤ p.sizes.length ∧ p.sizes.length ≤ 3 := by
  have := checkPlan_zero.1 h
  omega
theorem sum_range {p : Plan} {on : List (List Int)} (h : checkShelf p on = 0) {g : Nat} (hg : g < p.sizes.length) {k : Nat} (hk : k ≤ on.length) :
    0 ≤ sumTo (fun b => cell on b g) k ∧ sumTo (fun b => cell on b g) k ≤ k * 200 :=
  sumTo_bounds fun _ hj => right_cell h (by omega) hg

theorem setCell_ok {p : Plan} {on : List (List Int)} {b g : Nat} {n : Int} (h : shelfOk p on = true) (hn : 0 ≤ n ∧ n ≤ 200) (hb : b < p.bins.length) (hg : g < p.sizes.length) :
    shelfOk p (setCell on b g n) = true := by
  rw [shelfOk_iff] at h ⊢
  obtain ⟨h1, h2⟩ := h
  rw [length_setCell]
  refine ⟨h1, fun i hi => ?_⟩
  rw [rowlen_setCell]
  refine ⟨(h2 i hi).1, fun j hj => ?_⟩
  rw [cell_set (by omega) (by rw [(h2 b (by omega)).1]; omega)]
  split
  · exact hn
  · exact (h2 i hi).2 j hj
end Wh
namespace Wh
open Go Go.RowKit

section
variable {P : Program} (w : World)
theorem run_append_nil (base : Nat) (t ty e : TypeId) (i : TypeInfo) (size : Nat) (ht : P.underlying t = some (.slice e)) (hi : P.info? e = some i)
    (v : Value) (n : Nat) (xs : List Value) (hown : w.ownsRow base e size v n xs) (c : Nat) : (Builtin.append_ #[t, t] ty #[v, .slice none 0 c]).run P w = .ok v w := by
  rcases hown.2 with ⟨rfl, rfl⟩ | ⟨g, cap, cur, rfl, _, _, hnc, _⟩
  · simp [Builtin.append_, run_underlying ht, Go.sizeOf, typeInfo, hi, Builtin.lenOf, Builtin.firstCells]
  · simp [Builtin.append_, run_underlying ht, Go.sizeOf, typeInfo, hi, Builtin.lenOf, Builtin.firstCells, hnc, storeCells]

/-- 'v = append(v, xs...)': whatever slice xs is. -/
theorem wpList_all {α : Type} {enc : α → List Value} {ops : Array Oper} {rest : List Oper} {o : Oper} {a : Go.Act} {Q : Exit → Go.Act → World → Prop} (hgd : o.guard = none) (s x : Operand) (t e : TypeId)
    (ho : o.op = .call { callee := .builtin .append, args := #[s, x], argTypes := #[t, t] }) (base : Nat) (z : Value) (size bytes : Nat) (ht : P.underlying t = some (.slice e)) (hi : Elem P e z size bytes)
    (hzs : z.cells.size = size) (hsz : 0 < size) (hby : bytes ≤ 64) (v : Value) (l m : List α) (hs : a.eval s = v) (hown : Own enc size e w base v l)
    (A : Option Addr) (c B : Nat) (hx : a.eval x = .slice A m.length c) (hk : ∀ y, (enc y).length = size) (hA : At w B A (m.flatMap enc)) (h1 : ∀ y, ∀ u ∈ enc y, u.oneCell' = true)
    (hn : l.length + m.length ≤ 1000000) (hbase : base ≤ w.heap.size)
    (h : ∀ v' w', Own enc size e w' base v' (l ++ m) → w.grownBy w' v.ownBlock → (v'.ownBlock = v.ownBlock ∨ v'.ownBlock = some w.heap.size) → Below base w w' → wpList P ops Q rest (a.put o.dst v') w') :
    wpList P ops Q (o :: rest) a w := by
  obtain ⟨i, hi, hz, hsize, hbytes⟩ := hi
  have hb : (l.length + m.length) * bytes ≤ 140737488355328 := Nat.le_trans (Nat.mul_le_mul hn hby) (by decide)
  have hsplit : (A = none ∧ m.length = 0) ∨ ∃ ad : Addr, A = some ad ∧ ∀ j u, (m.flatMap enc)[j]? = some u → w.cell? (ad.add j) = some u := by
    rcases Nat.eq_zero_or_pos m.length with h0 | h0
    · obtain rfl : m = [] := List.eq_nil_of_length_eq_zero h0
      cases A with
      | none => exact .inl ⟨rfl, rfl⟩
      | some ad => exact .inr ⟨ad, rfl, by simp⟩
    · have hp : 0 < (m.flatMap enc).length := by rw [flat_length enc size hk]; exact Nat.mul_pos h0 hsz
      have he := (hA.ok hp).eq
      refine .inr ⟨_, he, fun j u hj => ?_⟩
      rw [Addr.add_lit]
      exact hA.cell hj
  rcases hsplit with ⟨rfl, h0⟩ | ⟨ad, rfl, hcells⟩
  · obtain rfl : m = [] := List.eq_nil_of_length_eq_zero h0
    refine wpList_plain hgd fun K hK => ?_
    have hr := run_append_nil (P := P) w base t o.type e i size ht hi v l.length _ hown c
    unfold Oper.wp execOp
    simp only [List.length_nil] at hx
    simp only [ho, resolve, invoke, builtin, Sem.run_bind, Sem.run_pure, Result.andThen_ok, List.map_toArray, List.map_cons, List.map_nil, hs, hx, hr]
    exact hK _ _ (h v w (by rw [List.append_nil]; exact hown) (World.grownBy.refl w _) (.inl rfl) (Below.refl _ _))
  · refine wpList_append_own_at w hgd s x t ho base e i z size bytes ht hi hz hsize hbytes hzs hsz v l.length _ hs hown ad m.length c (m.flatMap enc) hx (flat_length enc size hk m) hcells
      (fun u hu => by obtain ⟨y, _, hy⟩ := List.mem_flatMap.1 hu; exact h1 y u hy) (by unfold maxLen; omega) hb hbase ?_
    intro v' w' h2 h3 _ h5
    refine h v' w' ?_ h3 h5 ((Below.refl _ _).grown h3 hbase fun k hk => (World.ownsRow.lt hown k hk).1)
    unfold Own
    rw [List.length_append, List.flatMap_append]
    exact h2
end

section
variable {α : Type} {enc : α → List Value} {size : Nat} {e : TypeId} {w w' : World} {base : Nat} {v : Value} {l : List α}
/-- An empty row, made by a literal. -/
theorem Own.made0 (w : World) (e : TypeId) (hb : base ≤ w.heap.size) : Own enc size e (w.alloc (.cells #[] e)) base (.slice (some ⟨w.heap.size, 0, none⟩) 0 0) [] :=
  World.ownsRow_made w #[] 0 hb (Nat.zero_le _) (by simp)
/-- A row that a literal makes. -/
theorem Own.lit (w : World) (e : TypeId) (cs : Array Value) (l : List α) (hb : base ≤ w.heap.size) (hm : l.length ≤ 1000000) (hk : ∀ x, (enc x).length = size) (hc : cs.toList = l.flatMap enc) :
    Own enc size e (w.alloc (.cells cs e)) base (.slice (some ⟨w.heap.size, 0, none⟩) l.length l.length) l := by
  have hs : cs.size = l.length * size := by rw [← Array.length_toList, hc, flat_length enc size hk]
  have := World.ownsRow_lit (e := e) w cs l.length hb (by unfold maxLen; omega) hs
  rw [hc] at this
  exact this
theorem Own.kept {row : Option Nat} (h : Own enc size e w base v l) (hg : w.grownBy w' row) (hne : v.ownBlock = none ∨ v.ownBlock ≠ row) : Own enc size e w' base v l := World.ownsRow.kept h hg hne
/-- The block in which it lies, its cells and their type. -/
theorem Own.block (h : Own enc size e w base v l) {g : Nat} (hg : v.ownBlock = some g) : ∃ cur, w.heap[g]? = some (.cells cur e (0, 0)) := by
  rcases h.2 with ⟨rfl, _⟩ | ⟨g', cap, cur, rfl, _, hh, _⟩
  · simp [Value.ownBlock] at hg
  · simp [Value.ownBlock] at hg
    subst hg
    exact ⟨cur, hh⟩
theorem Own.some_ (h : Own enc size e w base v l) (hl : 0 < l.length) : ∃ g c, v = .slice (some ⟨g, 0, none⟩) l.length c ∧ base ≤ g ∧ g < w.heap.size := by
  rcases h.2 with ⟨_, h0⟩ | ⟨g, cap, cur, h1, h2, h3, _⟩
  · omega
  · exact ⟨g, cap, h1, h2, (Array.getElem?_eq_some_iff.1 h3).1⟩
/-- Rows whose elements differ in type never share a block. -/
theorem Own.apart {β : Type} {enc' : β → List Value} {size' : Nat} {e' : TypeId} {base' : Nat} {v' : Value} {l' : List β} (h : Own enc size e w base v l) (h' : Own enc' size' e' w base' v' l') (hne : e ≠ e') :
    v.ownBlock = none ∨ v.ownBlock ≠ v'.ownBlock := by
  cases hv : v.ownBlock with
  | none => exact .inl rfl
  | some g =>
    refine .inr fun he => ?_
    obtain ⟨c1, h1⟩ := h.block hv
    obtain ⟨c2, h2⟩ := h'.block he.symm
    rw [h1] at h2
    injection h2 with h2
    injection h2 with _ h3
    exact hne h3
end

/-- Rows of numbers of the call's own: the outer row's elements have type E2, the numbers E1; gs: the rows' blocks. -/
def OwnOnV (E2 E1 : TypeId) (w : World) (base : Nat) (v : Value) (l : List (List Int)) (gs : List Nat) (vs : List Value) : Prop :=
  Own (fun u : Value => [u]) 1 E2 w base v vs ∧ vs.length = l.length ∧ gs.length = l.length ∧ gs.Nodup ∧
    ∀ (i : Nat) (x : List Int), l[i]? = some x → ∃ g c, vs[i]? = some (.slice (some ⟨g, 0, none⟩) x.length c) ∧ gs[i]? = some g ∧ Own cInt 1 E1 w base (.slice (some ⟨g, 0, none⟩) x.length c) x
def OwnOn (E2 E1 : TypeId) (w : World) (base : Nat) (v : Value) (l : List (List Int)) (gs : List Nat) : Prop := ∃ vs, OwnOnV E2 E1 w base v l gs vs

section
variable {E2 E1 : TypeId} {w w' : World} {base : Nat} {v : Value} {l : List (List Int)} {gs : List Nat}
theorem OwnOn.nil : OwnOn E2 E1 w base (.slice none 0 0) [] [] := ⟨[], Own.nil, rfl, rfl, List.nodup_nil, fun i x h => by simp at h⟩
theorem OwnOn.below (h : OwnOn E2 E1 w base v l gs) (hb : Below w.heap.size w w') : OwnOn E2 E1 w' base v l gs :=
  let ⟨vs, h1, h2, h3, h4, h5⟩ := h
  ⟨vs, h1.below hb, h2, h3, h4, fun i x hi => let ⟨g, c, e1, e2, e3⟩ := h5 i x hi; ⟨g, c, e1, e2, e3.below hb⟩⟩
theorem OwnOn.from_ {base' : Nat} (h : OwnOn E2 E1 w base v l gs) (hb : base' ≤ base) : OwnOn E2 E1 w base' v l gs :=
  let ⟨vs, h1, h2, h3, h4, h5⟩ := h
  ⟨vs, h1.from_ hb, h2, h3, h4, fun i x hi => let ⟨g, c, e1, e2, e3⟩ := h5 i x hi; ⟨g, c, e1, e2, e3.from_ hb⟩⟩
theorem OwnOn.drew (h : OwnOn E2 E1 w base v l gs) : OwnOn E2 E1 w.drew base v l gs := h
theorem OwnOn.mem (h : OwnOn E2 E1 w base v l gs) {g : Nat} (hg : g ∈ gs) : base ≤ g ∧ g < w.heap.size := by
  obtain ⟨vs, h1, h2, h3, h4, h5⟩ := h
  obtain ⟨i, hi, rfl⟩ := List.getElem_of_mem hg
  obtain ⟨g, c, e1, e2, e3⟩ := h5 i l[i] (by simp [← h3, hi])
  rw [List.getElem?_eq_getElem hi] at e2
  injection e2 with e2
  rw [e2]
  exact e3.size g rfl
/-- One row more. -/
theorem OwnOnV.push (hE : E1 ≠ E2) {vs : List Value} (h : OwnOnV E2 E1 w base v l gs vs) {w1 w2 : World} {v' : Value} {x : List Int} {g c : Nat} (hw : Below w.heap.size w w1) (hg : w.heap.size ≤ g)
    (hu : Own cInt 1 E1 w1 base (.slice (some ⟨g, 0, none⟩) x.length c) x) (hgrow : w1.grownBy w2 v.ownBlock)
    (hown : Own (fun u : Value => [u]) 1 E2 w2 base v' (vs ++ [.slice (some ⟨g, 0, none⟩) x.length c])) :
    OwnOn E2 E1 w2 base v' (l ++ [x]) (gs ++ [g]) := by
  have hmem := fun g' (hg' : g' ∈ gs) => OwnOn.mem ⟨vs, h⟩ hg'
  obtain ⟨h1, h2, h3, h4, h5⟩ := h
  have keep : ∀ {y : List Int} {g' c' : Nat}, Own cInt 1 E1 w1 base (.slice (some ⟨g', 0, none⟩) y.length c') y → Own cInt 1 E1 w2 base (.slice (some ⟨g', 0, none⟩) y.length c') y :=
    fun hy => hy.kept hgrow (Own.apart hy (h1.below hw) hE)
  refine ⟨_, hown, by simp [h2], by simp [h3], ?_, fun i y hi => ?_⟩
  · rw [List.nodup_append]
    refine ⟨h4, by simp, fun a ha b hb => ?_⟩
    obtain rfl := List.mem_singleton.1 hb
    have := (hmem a ha).2
    omega
  · by_cases hlt : i < l.length
    · rw [List.getElem?_append_left hlt] at hi
      obtain ⟨g', c', e1, e2, e3⟩ := h5 i y hi
      exact ⟨g', c', by rw [List.getElem?_append_left (by omega)]; exact e1, by rw [List.getElem?_append_left (by omega)]; exact e2, keep (e3.below hw)⟩
    · rw [List.getElem?_append_right (by omega)] at hi
      have hi0 : i - l.length = 0 := by
        rcases Nat.eq_zero_or_pos (i - l.length) with h0 | h0
        · exact h0
        · rw [List.getElem?_eq_none (by simp; omega)] at hi; simp at hi
      rw [hi0] at hi
      simp at hi
      subst hi
      exact ⟨g, c, by rw [List.getElem?_append_right (by omega)]; simp [h2, hi0], by rw [List.getElem?_append_right (by omega)]; simp [h3, hi0], keep hu⟩
end
/-- Rows that literals make. -/
theorem SlSl.lit {enc : Int → List Value} (w : World) (e : TypeId) (cs : Array Value) (l : List (List Int)) (hl : cs.toList.length = l.length) (hm : l.length ≤ 1000000)
    (hr : ∀ (i : Nat) (x : List Int), l[i]? = some x → ∃ u, cs.toList[i]? = some u ∧ Sl enc w w.heap.size u x) :
    SlSl enc (w.alloc (.cells cs e)) (w.alloc (.cells cs e)).heap.size (.slice (some ⟨w.heap.size, 0, none⟩) l.length l.length) l := by
  refine ⟨_, _, cs.toList, rfl, by omega, hl, fun _ => ⟨okA_some _ _, by simp [ablk], fun j v hj => ?_⟩, fun i x hi => ?_⟩
  · show (w.alloc (.cells cs e)).cell? ⟨w.heap.size, 0 + j, none⟩ = some v
    rw [Nat.zero_add, World.cell?_alloc_new]
    simpa using hj
  · obtain ⟨u, hu, hs⟩ := hr i x hi
    exact ⟨u, hu, hs.up ((Below.refl _ _).alloc (Nat.le_refl _) _) (by simp)⟩

end Wh
