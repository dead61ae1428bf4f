/- Texts of the claim, joined: PlainB, PlainD, PlainF, WalkB. -/
import Derived.Test.YtfhfkijmebhgmaaGreatChecked
import Derived.Test.YtfhfkijmebhgmaaGreatQ02
import Derived.Test.YtfhfkijmebhgmaaGreatQ01
namespace Wh

def rises (l : List Hold) : Prop := l.Pairwise fun a b => place a < place b
def fine (l : List Hold) : Prop := ∀ h ∈ l, holdFine h = true
/-- A key that a right hold may have. -/
def keyOk (o ln b : Int) : Prop := (0 ≤ o ∧ o ≤ 3) ∧ (0 ≤ ln ∧ ln ≤ 2) ∧ (0 ≤ b ∧ b ≤ 5)
theorem fine_iff {h : Hold} : holdFine h = true ↔ keyOk h.order h.line h.bin ∧ 1 ≤ h.n ∧ h.n ≤ 200 := by
  simp only [holdFine, Bool.and_eq_true, within_iff, keyOk]
  omega
theorem place_inj {a b : Hold} (ha : keyOk a.order a.line a.bin) (hb : keyOk b.order b.line b.bin) (h : place a = place b) : a.order = b.order ∧ a.line = b.line ∧ a.bin = b.bin := by
  unfold keyOk at ha hb
  unfold place at h
  omega
theorem place_congr {a b : Hold} (h : a.order = b.order ∧ a.line = b.line ∧ a.bin = b.bin) : place a = place b := by
  unfold place
  rw [h.1, h.2.1, h.2.2]

theorem hold_get {l : List Hold} {k : Nat} (hk : k < l.length) : hold l k = l[k] := by simp [hold, hk]
theorem holdsOk_iff {l : List Hold} : holdsOk l = true ↔ fine l ∧ rises l := by
  simp only [holdsOk, List.all_eq_true, List.mem_range, Bool.and_eq_true, Bool.or_eq_true, decide_eq_true_eq]
  constructor
  · intro h
    have hstep : ∀ k, k + 1 < l.length → place (hold l k) < place (hold l (k + 1)) := fun k hk => by
      rcases (h (k + 1) hk).2 with h1 | h1
      · omega
      · simpa using h1
    have hmono : ∀ d i, i + d + 1 < l.length → place (hold l i) < place (hold l (i + d + 1)) := by
      intro d
      induction d with
      | zero => exact fun i hi => hstep i (by omega)
      | succ d ih =>
        intro i hi
        have h1 := ih i (by omega)
        have h2 := hstep (i + d + 1) (by omega)
        rw [show i + (d + 1) + 1 = i + d + 1 + 1 by omega]
        omega
    refine ⟨fun x hx => ?_, ?_⟩
    · obtain ⟨k, hk, rfl⟩ := List.getElem_of_mem hx
      rw [← hold_get hk]
      exact (h k hk).1
    · refine List.pairwise_iff_getElem.2 fun i j hi hj hij => ?_
      have := hmono (j - i - 1) i (by omega)
      rw [show i + (j - i - 1) + 1 = j by omega, hold_get hi, hold_get hj] at this
      exact this
  · rintro ⟨h1, h2⟩ k hk
    refine ⟨by rw [hold_get hk]; exact h1 _ (List.getElem_mem hk), ?_⟩
    by_cases h0 : k = 0
    · exact .inl h0
    · refine .inr ?_
      rw [hold_get hk, hold_get (show k - 1 < l.length by omega)]
      exact List.pairwise_iff_getElem.1 h2 (k - 1) k (by omega) hk (by omega)

theorem sameKey_iff {o ln b : Int} {h : Hold} : sameKey o ln b h = true ↔ h.order = o ∧ h.line = ln ∧ h.bin = b := by
  simp [sameKey, and_assoc]
theorem keptAt_mem {l : List Hold} (_hf : fine l) (hr : rises l) {h : Hold} (hm : h ∈ l) : keptAt l h.order h.line h.bin = h.n := by
  unfold keptAt
  cases hx : l.find? (sameKey h.order h.line h.bin) with
  | none =>
    have := List.find?_eq_none.1 hx h hm
    simp [sameKey] at this
  | some x =>
    have h1 := sameKey_iff.1 (List.find?_some hx)
    have h2 := List.mem_of_find?_eq_some hx
    have h3 : place x = place h := place_congr h1
    have h4 : x = h := by
      obtain ⟨i, hi, rfl⟩ := List.getElem_of_mem h2
      obtain ⟨j, hj, rfl⟩ := List.getElem_of_mem hm
      rcases Nat.lt_trichotomy i j with h5 | rfl | h5
      · have := List.pairwise_iff_getElem.1 hr i j hi hj h5; omega
      · rfl
      · have := List.pairwise_iff_getElem.1 hr j i hj hi h5; omega
    rw [h4]
theorem keptAt_none {l : List Hold} {o ln b : Int} (h : ∀ x ∈ l, ¬ (x.order = o ∧ x.line = ln ∧ x.bin = b)) : keptAt l o ln b = 0 := by
  unfold keptAt
  cases hx : l.find? (sameKey o ln b) with
  | none => rfl
  | some x => exact absurd (sameKey_iff.1 (List.find?_some hx)) (h x (List.mem_of_find?_eq_some hx))
theorem keptAt_or {l : List Hold} (hf : fine l) (hr : rises l) (o ln b : Int) :
    (∃ h ∈ l, h.order = o ∧ h.line = ln ∧ h.bin = b ∧ keptAt l o ln b = h.n) ∨ ((∀ x ∈ l, ¬ (x.order = o ∧ x.line = ln ∧ x.bin = b)) ∧ keptAt l o ln b = 0) := by
  by_cases h : ∃ x ∈ l, x.order = o ∧ x.line = ln ∧ x.bin = b
  · obtain ⟨x, hx, rfl, rfl, rfl⟩ := h
    exact .inl ⟨x, hx, rfl, rfl, rfl, keptAt_mem hf hr hx⟩
  · refine .inr ⟨fun x hx he => h ⟨x, hx, he⟩, keptAt_none fun x hx he => h ⟨x, hx, he⟩⟩
theorem keptAt_range {l : List Hold} (hf : fine l) (hr : rises l) (o ln b : Int) : 0 ≤ keptAt l o ln b ∧ keptAt l o ln b ≤ 200 := by
  rcases keptAt_or hf hr o ln b with ⟨h, hm, _, _, _, he⟩ | ⟨_, he⟩
  · have := fine_iff.1 (hf h hm); omega
  · omega
theorem keptAt_key {l : List Hold} (hf : fine l) (hr : rises l) {o ln b : Int} (h : keptAt l o ln b ≠ 0) : keyOk o ln b ∧ ⟨o, ln, b, keptAt l o ln b⟩ ∈ l := by
  rcases keptAt_or hf hr o ln b with ⟨h', hm, rfl, rfl, rfl, he⟩ | ⟨_, he⟩
  · exact ⟨(fine_iff.1 (hf h' hm)).1, by rw [he]; exact hm⟩
  · exact absurd he h
theorem with_mem {l : List Hold} {h x : Hold} : x ∈ withHold l h ↔ (x ∈ l ∧ place x ≠ place h) ∨ (x = h ∧ h.n ≠ 0) := by
  unfold withHold
  simp only [List.mem_append, List.mem_filter, decide_eq_true_eq]
  by_cases h0 : h.n = 0
  · simp only [h0, ite_true, List.not_mem_nil, or_false, ne_eq, not_true_eq_false, and_false, or_false]
    constructor
    · rintro (⟨h1, h2⟩ | ⟨h1, h2⟩)
      · exact ⟨h1, by omega⟩
      · exact ⟨h1, by omega⟩
    · rintro ⟨h1, h2⟩
      rcases Int.lt_or_lt_of_ne h2 with h3 | h3
      · exact .inl ⟨h1, h3⟩
      · exact .inr ⟨h1, h3⟩
  · simp only [h0, ite_false, List.mem_singleton, ne_eq, not_false_eq_true, and_true]
    constructor
    · rintro ((⟨h1, h2⟩ | h1) | ⟨h1, h2⟩)
      · exact .inl ⟨h1, by omega⟩
      · exact .inr h1
      · exact .inl ⟨h1, by omega⟩
    · rintro (⟨h1, h2⟩ | h1)
      · rcases Int.lt_or_lt_of_ne h2 with h3 | h3
        · exact .inl (.inl ⟨h1, h3⟩)
        · exact .inr ⟨h1, h3⟩
      · exact .inl (.inr h1)
theorem with_rises {l : List Hold} {h : Hold} (hr : rises l) : rises (withHold l h) := by
  unfold withHold rises
  rw [List.pairwise_append, List.pairwise_append]
  refine ⟨⟨hr.filter _, ?_, ?_⟩, hr.filter _, ?_⟩
  · split <;> simp
  · intro a ha b hb
    simp only [List.mem_filter, decide_eq_true_eq] at ha
    split at hb
    · simp at hb
    · obtain rfl := List.mem_singleton.1 hb
      exact ha.2
  · intro a ha b hb
    simp only [List.mem_filter, decide_eq_true_eq] at hb
    rcases List.mem_append.1 ha with ha | ha
    · simp only [List.mem_filter, decide_eq_true_eq] at ha
      omega
    · split at ha
      · simp at ha
      · obtain rfl := List.mem_singleton.1 ha
        exact hb.2
theorem with_ok {l : List Hold} {h : Hold} (hl : holdsOk l = true) (hk : keyOk h.order h.line h.bin) (hn : 0 ≤ h.n ∧ h.n ≤ 200) : holdsOk (withHold l h) = true := by
  rw [holdsOk_iff] at hl ⊢
  refine ⟨fun x hx => ?_, with_rises hl.2⟩
  rcases with_mem.1 hx with ⟨h1, _⟩ | ⟨rfl, h1⟩
  · exact hl.1 x h1
  · exact fine_iff.2 ⟨hk, by omega, hn.2⟩
theorem keptAt_with {l : List Hold} {h : Hold} (hl : holdsOk l = true) (hk : keyOk h.order h.line h.bin) (hn : 0 ≤ h.n ∧ h.n ≤ 200) (o ln b : Int) :
    keptAt (withHold l h) o ln b = if h.order = o ∧ h.line = ln ∧ h.bin = b then h.n else keptAt l o ln b := by
  have hw := with_ok hl hk hn
  rw [holdsOk_iff] at hw hl
  split
  · rename_i he
    obtain ⟨rfl, rfl, rfl⟩ := he
    by_cases h0 : h.n = 0
    · rw [h0]
      refine keptAt_none fun x hx he => ?_
      rcases with_mem.1 hx with ⟨_, h2⟩ | ⟨_, h2⟩
      · exact h2 (place_congr he)
      · exact h2 h0
    · exact keptAt_mem hw.1 hw.2 (with_mem.2 (.inr ⟨rfl, h0⟩))
  · rename_i he
    rcases keptAt_or hl.1 hl.2 o ln b with ⟨x, hx, rfl, rfl, rfl, e⟩ | ⟨h1, e⟩
    · rw [e]
      refine keptAt_mem hw.1 hw.2 (with_mem.2 (.inl ⟨hx, fun hp => ?_⟩))
      have := place_inj (fine_iff.1 (hl.1 x hx)).1 hk hp
      exact he ⟨this.1.symm, this.2.1.symm, this.2.2.symm⟩
    · rw [e]
      refine keptAt_none fun x hx hxe => ?_
      rcases with_mem.1 hx with ⟨h2, _⟩ | ⟨rfl, _⟩
      · exact h1 x h2 hxe
      · exact he hxe

/-- How many all of a line have together: bin by bin. -/
theorem kept_bins {l : List Hold} (hl : holdsOk l = true) (o ln : Int) : kept l o ln = sumTo (fun b => keptAt l o ln b) 6 := by
  have key : ∀ l : List Hold, fine l → rises l → kept l o ln = sumTo (fun b => keptAt l o ln b) 6 := by
    intro l
    induction l with
    | nil => intro _ _; simp [kept, keptAt, sumTo]
    | cons x l ih =>
      intro hf hr
      have hf' : fine l := fun h hm => hf h (List.mem_cons_of_mem _ hm)
      have hr' := List.pairwise_cons.1 hr
      have ih' := ih hf' hr'.2
      have hx := fine_iff.1 (hf x (List.mem_cons_self ..))
      have hcons : ∀ b, keptAt (x :: l) o ln b = if x.order = o ∧ x.line = ln ∧ x.bin = b then x.n else keptAt l o ln b := by
        intro b
        unfold keptAt
        rw [List.find?_cons]
        by_cases hk : x.order = o ∧ x.line = ln ∧ x.bin = b
        · rw [if_pos hk, sameKey_iff.2 hk]
        · rw [if_neg hk, show sameKey o ln b x = false by rw [← Bool.not_eq_true, sameKey_iff]; exact hk]
      by_cases hs : x.order = o ∧ x.line = ln
      · have h0 : keptAt l o ln x.bin = 0 := keptAt_none fun y hy he => by
          have h1 := hr'.1 y hy
          rw [place_congr ⟨hs.1.trans he.1.symm, hs.2.trans he.2.1.symm, he.2.2.symm⟩] at h1
          omega
        have hk1 : kept (x :: l) o ln = kept l o ln + x.n := by
          unfold kept
          rw [List.filter_cons_of_pos (by simp [sameLine, hs.1, hs.2])]
          simp [Int.add_comm]
        rw [hk1, ih']
        refine (sumTo_one (f := fun b => keptAt l o ln b) (g := fun b => keptAt (x :: l) o ln b) (i := x.bin.toNat) (d := x.n) ?_ ?_ ?_).symm
        · have := hx.1.2.2; omega
        · intro b _ hb
          show keptAt (x :: l) o ln b = keptAt l o ln b
          rw [hcons, if_neg (by have := hx.1.2.2; omega)]
        · have hb := hx.1.2.2
          show keptAt (x :: l) o ln (x.bin.toNat : Int) = keptAt l o ln (x.bin.toNat : Int) + x.n
          rw [Int.toNat_of_nonneg hb.1, hcons, if_pos ⟨hs.1, hs.2, rfl⟩, h0]
          omega
      · have hk1 : kept (x :: l) o ln = kept l o ln := by
          unfold kept
          rw [List.filter_cons_of_neg (by simp [sameLine]; exact fun h => fun h' => hs ⟨h, h'⟩)]
        rw [hk1, ih']
        refine sumTo_congr fun b _ => ?_
        show _ = keptAt (x :: l) o ln b
        rw [hcons, if_neg (fun he => hs ⟨he.1, he.2.1⟩)]
  rw [holdsOk_iff] at hl
  exact key l hl.1 hl.2
theorem kept_with {l : List Hold} {h : Hold} (hl : holdsOk l = true) (hk : keyOk h.order h.line h.bin) (hn : 0 ≤ h.n ∧ h.n ≤ 200) (o ln : Int) :
    kept (withHold l h) o ln = kept l o ln + if h.order = o ∧ h.line = ln then h.n - keptAt l h.order h.line h.bin else 0 := by
  rw [kept_bins (with_ok hl hk hn), kept_bins hl]
  by_cases hs : h.order = o ∧ h.line = ln
  · rw [if_pos hs]
    obtain ⟨rfl, rfl⟩ := hs
    refine sumTo_one (i := h.bin.toNat) (by have := hk.2.2; omega) (fun b _ hb => ?_) ?_
    · show keptAt (withHold l h) _ _ _ = _
      rw [keptAt_with hl hk hn, if_neg (by have := hk.2.2; omega)]
    · show keptAt (withHold l h) _ _ _ = _
      rw [keptAt_with hl hk hn, if_pos ⟨rfl, rfl, by have := hk.2.2; omega⟩]
      rw [show ((h.bin.toNat : Nat) : Int) = h.bin by have := hk.2.2; omega]
      omega
  · rw [if_neg hs, Int.add_zero]
    refine sumTo_congr fun b _ => ?_
    show keptAt (withHold l h) _ _ _ = _
    rw [keptAt_with hl hk hn, if_neg (fun he => hs ⟨he.1, he.2.1⟩)]
theorem kept_range {l : List Hold} (hl : holdsOk l = true) (o ln : Int) : 0 ≤ kept l o ln ∧ kept l o ln ≤ 1200 := by
  rw [kept_bins hl]
  rw [holdsOk_iff] at hl
  have := sumTo_bounds (f := fun b => keptAt l o ln b) (n := 6) (m := 200) fun b _ => keptAt_range hl.1 hl.2 o ln b
  omega

end Wh
namespace Wh

def cmp3 (a b : Int) : Int := if a < b then -1 else if b < a then 1 else 0
def ord (a b : Hold) : Int :=
  if cmp3 a.order b.order ≠ 0 then cmp3 a.order b.order else if cmp3 a.line b.line ≠ 0 then cmp3 a.line b.line else cmp3 a.bin b.bin

theorem cmp3_cases (a b : Int) : (a < b ∧ cmp3 a b = -1) ∨ (b < a ∧ cmp3 a b = 1) ∨ (a = b ∧ cmp3 a b = 0) := by
  unfold cmp3
  rcases Int.lt_trichotomy a b with h | h | h
  · exact .inl ⟨h, if_pos h⟩
  · exact .inr (.inr ⟨h, by rw [if_neg (by omega), if_neg (by omega)]⟩)
  · exact .inr (.inl ⟨h, by rw [if_neg (by omega), if_pos h]⟩)
theorem ord_cases (a b : Hold) : (ord a b = -1 ∧ (a.order < b.order ∨ a.order = b.order ∧ (a.line < b.line ∨ a.line = b.line ∧ a.bin < b.bin))) ∨
    (ord a b = 1 ∧ (b.order < a.order ∨ a.order = b.order ∧ (b.line < a.line ∨ a.line = b.line ∧ b.bin < a.bin))) ∨ (ord a b = 0 ∧ a.order = b.order ∧ a.line = b.line ∧ a.bin = b.bin) := by
  unfold ord
  rcases cmp3_cases a.order b.order with ⟨h1, e1⟩ | ⟨h1, e1⟩ | ⟨h1, e1⟩ <;> rcases cmp3_cases a.line b.line with ⟨h2, e2⟩ | ⟨h2, e2⟩ | ⟨h2, e2⟩ <;>
    rcases cmp3_cases a.bin b.bin with ⟨h3, e3⟩ | ⟨h3, e3⟩ | ⟨h3, e3⟩ <;> simp only [e1, e2, e3] <;> simp <;> omega
theorem ord_neg {a b : Hold} : ord a b < 0 ↔ (a.order < b.order ∨ a.order = b.order ∧ (a.line < b.line ∨ a.line = b.line ∧ a.bin < b.bin)) := by
  rcases ord_cases a b with ⟨h, h'⟩ | ⟨h, h'⟩ | ⟨h, h'⟩ <;> rw [h] <;> omega
theorem ord_zero {a b : Hold} : ord a b = 0 ↔ (a.order = b.order ∧ a.line = b.line ∧ a.bin = b.bin) := by
  rcases ord_cases a b with ⟨h, h'⟩ | ⟨h, h'⟩ | ⟨h, h'⟩ <;> rw [h] <;> omega
theorem ord_place {a b : Hold} (ha : keyOk a.order a.line a.bin) (hb : keyOk b.order b.line b.bin) : ord a b < 0 ↔ place a < place b := by
  rw [ord_neg]
  unfold keyOk at ha hb
  unfold place
  omega
theorem ord_place0 {a b : Hold} (ha : keyOk a.order a.line a.bin) (hb : keyOk b.order b.line b.bin) : ord a b = 0 ↔ place a = place b := by
  rw [ord_zero]
  unfold keyOk at ha hb
  unfold place
  omega

/-- How many stand ahead of it. -/
def pos (l : List Hold) (h : Hold) : Nat := (l.takeWhile fun x => decide (ord x h < 0)).length
def found (l : List Hold) (h : Hold) : Bool := decide (pos l h < l.length) && decide (ord (hold l (pos l h)) h = 0)

theorem takeWhile_length {α : Type} (p : α → Bool) : ∀ (l : List α) (k : Nat), k ≤ l.length → (∀ i (hi : i < l.length), i < k → p l[i] = true) → (∀ (hk : k < l.length), p l[k] = false) → (l.takeWhile p).length = k
  | [], k, hk, _, _ => by simp at hk; simp [hk]
  | x :: l, 0, _, _, h2 => by
    have := h2 (by simp)
    simp at this
    simp [this]
  | x :: l, k + 1, hk, h1, h2 => by
    have h0 := h1 0 (by simp) (by omega)
    simp at h0
    rw [List.takeWhile_cons, h0, if_pos rfl, List.length_cons, takeWhile_length p l k (by simpa using hk) (fun i hi hik => h1 (i + 1) (by simpa using hi) (by omega)) (fun hk' => h2 (by simpa using hk'))]
theorem takeWhile_spec {α : Type} (p : α → Bool) : ∀ (l : List α), (l.takeWhile p).length ≤ l.length ∧ (∀ i (hi : i < l.length), i < (l.takeWhile p).length → p l[i] = true) ∧ ∀ (hk : (l.takeWhile p).length < l.length), p l[(l.takeWhile p).length] = false
  | [] => by simp
  | x :: l => by
    obtain ⟨h1, h2, h3⟩ := takeWhile_spec p l
    by_cases hx : p x = true
    · have e : (x :: l).takeWhile p = x :: l.takeWhile p := by rw [List.takeWhile_cons, if_pos hx]
      rw [e]
      refine ⟨by simpa using h1, fun i hi hik => ?_, fun hk => ?_⟩
      · cases i with
        | zero => simpa using hx
        | succ i => simpa using h2 i (by simpa using hi) (by simpa using hik)
      · have := h3 (by simpa using hk)
        simpa using this
    · have e : (x :: l).takeWhile p = [] := by rw [List.takeWhile_cons, if_neg hx]
      rw [e]
      exact ⟨by simp, fun i hi hik => by simp at hik, fun hk => by simpa using hx⟩
theorem pos_eq {l : List Hold} {h : Hold} {k : Nat} (hk : k ≤ l.length) (h1 : ∀ i, i < k → ord (hold l i) h < 0) (h2 : k < l.length → 0 ≤ ord (hold l k) h) : pos l h = k :=
  takeWhile_length _ l k hk (fun i hi hik => by have := h1 i hik; rw [hold_get hi] at this; simpa using this) (fun hk' => by have := h2 hk'; rw [hold_get hk'] at this; simpa using this)
theorem pos_spec (l : List Hold) (h : Hold) : pos l h ≤ l.length ∧ (∀ i, i < pos l h → ord (hold l i) h < 0) ∧ (pos l h < l.length → 0 ≤ ord (hold l (pos l h)) h) := by
  obtain ⟨h1, h2, h3⟩ := takeWhile_spec (fun x => decide (ord x h < 0)) l
  refine ⟨h1, fun i hi => ?_, fun hk => ?_⟩
  · have := h2 i (Nat.lt_of_lt_of_le hi h1) hi
    rw [hold_get (Nat.lt_of_lt_of_le hi h1)]
    simpa using this
  · have := h3 hk
    rw [hold_get hk]
    exact Int.not_lt.1 (of_decide_eq_false this)

theorem ok_at {l : List Hold} (h : holdsOk l = true) {i : Nat} (hi : i < l.length) : holdFine (hold l i) = true := by
  rw [hold_get hi]
  exact (holdsOk_iff.1 h).1 _ (List.getElem_mem hi)
theorem ok_key {l : List Hold} (h : holdsOk l = true) {i : Nat} (hi : i < l.length) : keyOk (hold l i).order (hold l i).line (hold l i).bin := (fine_iff.1 (ok_at h hi)).1
theorem ok_n {l : List Hold} (h : holdsOk l = true) {i : Nat} (hi : i < l.length) : 1 ≤ (hold l i).n ∧ (hold l i).n ≤ 200 := (fine_iff.1 (ok_at h hi)).2
theorem ok_lt {l : List Hold} (h : holdsOk l = true) {i j : Nat} (hij : i < j) (hj : j < l.length) : ord (hold l i) (hold l j) < 0 := by
  rw [ord_place (ok_key h (by omega)) (ok_key h hj), hold_get hj, hold_get (show i < l.length by omega)]
  exact List.pairwise_iff_getElem.1 (holdsOk_iff.1 h).2 i j (by omega) hj hij
theorem ord_trans {a b c : Hold} (h1 : ord a b < 0) (h2 : ord b c ≤ 0) : ord a c < 0 := by
  rw [ord_neg] at *
  rcases ord_cases b c with ⟨h, h'⟩ | ⟨h, h'⟩ | ⟨h, h'⟩ <;> omega
/-- The search's order: what stands ahead of one that is less is less. -/
theorem ok_less {l : List Hold} (h : holdsOk l = true) {x : Hold} {i j : Nat} (hij : i ≤ j) (hj : j < l.length) (hx : ord (hold l j) x < 0) : ord (hold l i) x < 0 := by
  rcases Nat.lt_or_eq_of_le hij with h1 | rfl
  · exact ord_trans (ok_lt h h1 hj) (by omega)
  · exact hx

theorem found_iff {l : List Hold} {h : Hold} : found l h = true ↔ pos l h < l.length ∧ ord (hold l (pos l h)) h = 0 := by
  unfold found
  simp
theorem found_kept {l : List Hold} (hl : holdsOk l = true) {h : Hold} (hf : found l h = true) : keptAt l h.order h.line h.bin = (hold l (pos l h)).n := by
  obtain ⟨h1, h2⟩ := found_iff.1 hf
  obtain ⟨e1, e2, e3⟩ := ord_zero.1 h2
  obtain ⟨g1, g2⟩ := holdsOk_iff.1 hl
  rw [← e1, ← e2, ← e3]
  exact keptAt_mem g1 g2 (by rw [hold_get h1]; exact List.getElem_mem h1)
theorem notFound_kept {l : List Hold} (hl : holdsOk l = true) {h : Hold} (hf : found l h = false) : keptAt l h.order h.line h.bin = 0 := by
  refine keptAt_none fun x hx hk => ?_
  obtain ⟨i, hi, rfl⟩ := List.getElem_of_mem hx
  have h0 : ord (hold l i) h = 0 := by rw [hold_get hi]; exact ord_zero.2 hk
  obtain ⟨p1, p2, p3⟩ := pos_spec l h
  have hip : pos l h ≤ i := Nat.le_of_not_lt fun hn => by have := p2 i hn; omega
  have hp : pos l h = i := by
    rcases Nat.lt_or_eq_of_le hip with h1 | h1
    · have := ord_trans (ok_lt hl h1 hi) (by omega : ord (hold l i) h ≤ 0)
      have := p3 (by omega)
      omega
    · exact h1
  have : found l h = true := found_iff.2 ⟨by omega, by rw [hp]; exact h0⟩
  rw [hf] at this
  cases this

/-- What withHold comes to, by the place where it stands. -/
theorem filter_lt {l : List Hold} (hl : holdsOk l = true) {h : Hold} (hk : keyOk h.order h.line h.bin) : l.filter (fun x => decide (place x < place h)) = l.take (pos l h) := by
  obtain ⟨p1, p2, p3⟩ := pos_spec l h
  have key : ∀ i (hi : i < l.length), (place l[i] < place h ↔ i < pos l h) := fun i hi => by
    have hki := ok_key hl hi
    rw [hold_get hi] at hki
    rw [← ord_place hki hk, ← hold_get hi]
    constructor
    · intro hlt
      exact Nat.lt_of_not_le fun hn => by have := ok_less hl hn hi hlt; have := p3 (by omega); omega
    · exact p2 i
  conv => lhs; rw [← List.take_append_drop (pos l h) l]
  rw [List.filter_append, List.filter_eq_self.2, List.filter_eq_nil_iff.2, List.append_nil]
  · intro x hx
    obtain ⟨i, hi, rfl⟩ := List.getElem_of_mem hx
    rw [List.getElem_drop]
    rw [List.length_drop] at hi
    simp only [decide_eq_true_eq]
    intro hc
    have := (key (pos l h + i) (by omega)).1 hc
    omega
  · intro x hx
    obtain ⟨i, hi, rfl⟩ := List.getElem_of_mem hx
    rw [List.getElem_take]
    rw [List.length_take] at hi
    simp only [decide_eq_true_eq]
    exact (key i (by omega)).2 (by omega)
theorem filter_gt {l : List Hold} (hl : holdsOk l = true) {h : Hold} (hk : keyOk h.order h.line h.bin) :
    l.filter (fun x => decide (place h < place x)) = l.drop (if found l h then pos l h + 1 else pos l h) := by
  obtain ⟨p1, p2, p3⟩ := pos_spec l h
  have key : ∀ i (hi : i < l.length), (place h < place l[i] ↔ (if found l h then pos l h + 1 else pos l h) ≤ i) := fun i hi => by
    have hki := ok_key hl hi
    have a1 := ord_place hki hk
    have a2 := ord_place0 hki hk
    rw [← hold_get hi]
    have e : place h < place (hold l i) ↔ 0 < ord (hold l i) h := by omega
    rw [e]
    constructor
    · intro hlt
      have hge : pos l h ≤ i := Nat.le_of_not_lt fun hn => by have := p2 i hn; omega
      split
      · rename_i hf
        obtain ⟨f1, f2⟩ := found_iff.1 hf
        rcases Nat.lt_or_eq_of_le hge with h1 | h1
        · omega
        · rw [← h1] at hlt; omega
      · exact hge
    · intro hge
      split at hge
      · rename_i hf
        obtain ⟨f1, f2⟩ := found_iff.1 hf
        have h1 := ok_lt hl (show pos l h < i by omega) hi
        rw [ord_zero] at f2
        rw [ord_neg] at h1
        rcases ord_cases (hold l i) h with ⟨h, h'⟩ | ⟨h, h'⟩ | ⟨h, h'⟩ <;> omega
      · rename_i hf
        have hp3 := p3 (by omega)
        have hnz : ord (hold l (pos l h)) h ≠ 0 := fun h0 => hf (found_iff.2 ⟨by omega, h0⟩)
        rcases Nat.lt_or_eq_of_le hge with h1 | h1
        · have h2 := ok_lt hl h1 hi
          rw [ord_neg] at h2
          rcases ord_cases (hold l (pos l h)) h with ⟨q, q'⟩ | ⟨q, q'⟩ | ⟨q, q'⟩ <;> rcases ord_cases (hold l i) h with ⟨g, g'⟩ | ⟨g, g'⟩ | ⟨g, g'⟩ <;> omega
        · rw [← h1]; omega
  generalize (if found l h then pos l h + 1 else pos l h) = q at key ⊢
  conv => lhs; rw [← List.take_append_drop q l]
  rw [List.filter_append, List.filter_eq_nil_iff.2, List.filter_eq_self.2, List.nil_append]
  · intro x hx
    obtain ⟨i, hi, rfl⟩ := List.getElem_of_mem hx
    rw [List.getElem_drop]
    rw [List.length_drop] at hi
    simp only [decide_eq_true_eq]
    exact (key (q + i) (by omega)).2 (by omega)
  · intro x hx
    obtain ⟨i, hi, rfl⟩ := List.getElem_of_mem hx
    rw [List.getElem_take]
    rw [List.length_take] at hi
    simp only [decide_eq_true_eq]
    intro hc
    have := (key i (by omega)).1 hc
    omega
theorem with_new {l : List Hold} (hl : holdsOk l = true) {h : Hold} (hk : keyOk h.order h.line h.bin) (hn : h.n ≠ 0) (hf : found l h = false) : withHold l h = l.take (pos l h) ++ h :: l.drop (pos l h) := by
  unfold withHold
  rw [filter_lt hl hk, filter_gt hl hk, hf, if_neg hn]
  simp
theorem pos_n (l : List Hold) (h : Hold) (n : Int) : pos l { h with n := n } = pos l h := rfl
theorem found_n (l : List Hold) (h : Hold) (n : Int) : found l { h with n := n } = found l h := rfl
theorem with_more {l : List Hold} (hl : holdsOk l = true) {h : Hold} (hk : keyOk h.order h.line h.bin) (hn : h.n ≠ 0) (hf : found l h = true) : withHold l h = l.set (pos l h) h := by
  unfold withHold
  obtain ⟨f1, f2⟩ := found_iff.1 hf
  rw [filter_lt hl hk, filter_gt hl hk, hf, if_neg hn, List.set_eq_take_append_cons_drop, if_pos f1]
  simp
end Wh
namespace Wh

theorem ok_len72 {l : List Hold} (h : holdsOk l = true) : l.length ≤ 72 := by
  have hr := (holdsOk_iff.1 h).2
  have hf := (holdsOk_iff.1 h).1
  have hp : ∀ x ∈ l, 0 ≤ place x ∧ place x < 72 := fun x hx => by
    have := (fine_iff.1 (hf x hx)).1
    unfold keyOk at this
    unfold place
    omega
  have hn : (l.map fun x => (place x).toNat).Nodup := by
    rw [List.Nodup, List.pairwise_map]
    refine List.Pairwise.imp_of_mem ?_ hr
    intro a b ha hb hab
    have h1 := hp a ha
    have h2 := hp b hb
    omega
  have hs : (l.map fun x => (place x).toNat) ⊆ List.range 72 := fun n hn' => by
    obtain ⟨x, hx, rfl⟩ := List.mem_map.1 hn'
    have := hp x hx
    exact List.mem_range.2 (by omega)
  have := hn.length_le_of_subset hs
  simpa using this
/-- A state that is as it must be, but maybe for the sums. -/
structure Sane (p : Plan) (s : State) : Prop where
  shelf : checkShelf p s.on = 0
  many : manyOk s = true
  form : formed p s = true

theorem all_at {α : Type} {P : α → Bool} {l : List α} (d : α) (h : l.all P = true) {k : Nat} (hk : k < l.length) : P (l.getD k d) = true := by
  have e : l.getD k d = l[k] := by simp [hk]
  rw [e]
  exact List.all_eq_true.1 h _ (List.getElem_mem hk)
theorem all_of {α : Type} {P : α → Bool} {l : List α} (d : α) (h : ∀ k, k < l.length → P (l.getD k d) = true) : l.all P = true := by
  rw [List.all_eq_true]
  intro x hx
  obtain ⟨k, hk, rfl⟩ := List.getElem_of_mem hx
  have := h k hk
  have e : l.getD k d = l[k] := by simp [hk]
  rwa [e] at this
theorem all_no {α : Type} {P : α → Bool} {l : List α} (d : α) {k : Nat} (hk : k < l.length) (h : P (l.getD k d) = false) : l.all P = false := by
  cases ha : l.all P
  · rfl
  · rw [all_at d ha hk] at h; cases h
theorem any_not {α : Type} (P : α → Bool) (l : List α) : (l.any fun x => !P x) = !(l.all P) := by
  induction l with
  | nil => rfl
  | cons x l ih => rw [List.any_cons, List.all_cons, ih, Bool.not_and]

theorem manyOk_iff {s : State} : manyOk s = true ↔ s.orders.length ≤ 4 ∧ s.moves.length ≤ 8 ∧ s.orders.all (fun o => within o.lines.length 1 3) = true := by
  unfold manyOk
  simp only [Bool.and_eq_true, decide_eq_true_eq, and_assoc]
theorem formed_iff {p : Plan} {s : State} : formed p s = true ↔ s.orders.all (orderOk p) = true ∧ holdsOk s.holds = true ∧ s.holds.all (holdIn p s) = true ∧ s.moves.all (moveOk p) = true ∧
    sumsOk p s.inn 0 = true ∧ sumsOk p s.out 0 = true ∧ sumsOk p s.fixed (-1048576) = true := by
  unfold formed
  simp only [Bool.and_eq_true, and_assoc]

theorem lineOk_iff {p : Plan} {x : Line} : lineOk p x = true ↔ (0 ≤ x.good ∧ x.good < p.sizes.length) ∧ (1 ≤ x.want ∧ x.want ≤ 200) ∧ (0 ≤ x.got ∧ x.got ≤ x.want) ∧ (0 ≤ x.back ∧ x.back ≤ x.want) := by
  unfold lineOk
  simp only [Bool.and_eq_true, within_iff, isGood_iff, and_assoc]
theorem moveOk_iff {p : Plan} {x : Move} : moveOk p x = true ↔ (0 ≤ x.good ∧ x.good < p.sizes.length) ∧ (0 ≤ x.src ∧ x.src < p.bins.length) ∧ (0 ≤ x.dst ∧ x.dst < p.bins.length) ∧ x.src ≠ x.dst ∧ 1 ≤ x.n ∧ x.n ≤ 200 := by
  unfold moveOk
  simp only [Bool.and_eq_true, within_iff, isGood_iff, isBin_iff, and_assoc, decide_eq_true_eq]
theorem orderOk_iff {p : Plan} {o : Order} : orderOk p o = true ↔ (0 ≤ o.kind ∧ o.kind ≤ 2) ∧ o.lines.all (lineOk p) = true := by
  unfold orderOk
  simp only [Bool.and_eq_true, within_iff]
theorem sumsOk_iff {p : Plan} {l : List Int} {lo : Int} : sumsOk p l lo = true ↔ l.length = p.sizes.length ∧ l.all (within · lo 1048576) = true := by
  unfold sumsOk
  simp only [Bool.and_eq_true, decide_eq_true_eq]
theorem holdIn_iff {p : Plan} {s : State} {h : Hold} : holdIn p s h = true ↔ h.order < s.orders.length ∧ h.line < (s.order h.order.toNat).lines.length ∧ h.bin < p.bins.length := by
  unfold holdIn
  simp only [Bool.and_eq_true, decide_eq_true_eq, and_assoc]

namespace Sane
variable {p : Plan} {s : State} (h : Sane p s)
include h
theorem plan : checkPlan p = 0 := (checkShelf_zero.1 h.shelf).1
theorem orders4 : s.orders.length ≤ 4 := (manyOk_iff.1 h.many).1
theorem moves8 : s.moves.length ≤ 8 := (manyOk_iff.1 h.many).2.1
theorem lines3 {o : Nat} (ho : o < s.orders.length) : 1 ≤ (s.order o).lines.length ∧ (s.order o).lines.length ≤ 3 := by
  have := all_at dOrder (manyOk_iff.1 h.many).2.2 ho
  have := within_iff.1 this
  unfold State.order orderAt
  omega
theorem orderOk {o : Nat} (ho : o < s.orders.length) : Wh.orderOk p (s.order o) = true := all_at dOrder (formed_iff.1 h.form).1 ho
theorem kind {o : Nat} (ho : o < s.orders.length) : 0 ≤ (s.order o).kind ∧ (s.order o).kind ≤ 2 := (orderOk_iff.1 (h.orderOk ho)).1
theorem line {o k : Nat} (ho : o < s.orders.length) (hk : k < (s.order o).lines.length) :
    (0 ≤ (s.line o k).good ∧ (s.line o k).good < p.sizes.length) ∧ (1 ≤ (s.line o k).want ∧ (s.line o k).want ≤ 200) ∧ (0 ≤ (s.line o k).got ∧ (s.line o k).got ≤ (s.line o k).want) ∧ (0 ≤ (s.line o k).back ∧ (s.line o k).back ≤ (s.line o k).want) :=
  lineOk_iff.1 (all_at dLine (orderOk_iff.1 (h.orderOk ho)).2 hk)
theorem holds : holdsOk s.holds = true := (formed_iff.1 h.form).2.1
theorem holdAt {k : Nat} (hk : k < s.holds.length) : (0 ≤ (hold s.holds k).order ∧ (hold s.holds k).order < s.orders.length) ∧ (0 ≤ (hold s.holds k).line ∧ (hold s.holds k).line < (s.order (hold s.holds k).order.toNat).lines.length) ∧
    (0 ≤ (hold s.holds k).bin ∧ (hold s.holds k).bin < p.bins.length) ∧ (1 ≤ (hold s.holds k).n ∧ (hold s.holds k).n ≤ 200) := by
  have h1 := ok_key h.holds hk
  have h2 := ok_n h.holds hk
  have h3 := holdIn_iff.1 (all_at dHold (formed_iff.1 h.form).2.2.1 hk)
  unfold keyOk at h1
  change (hold s.holds k).order < _ ∧ _ at h3
  obtain ⟨a, b, c⟩ := h3
  exact ⟨⟨h1.1.1, a⟩, ⟨h1.2.1.1, b⟩, ⟨h1.2.2.1, c⟩, h2⟩
theorem moveAt {k : Nat} (hk : k < s.moves.length) : (0 ≤ (moveAt s.moves k).good ∧ (moveAt s.moves k).good < p.sizes.length) ∧ (0 ≤ (Wh.moveAt s.moves k).src ∧ (Wh.moveAt s.moves k).src < p.bins.length) ∧
    (0 ≤ (Wh.moveAt s.moves k).dst ∧ (Wh.moveAt s.moves k).dst < p.bins.length) ∧ (Wh.moveAt s.moves k).src ≠ (Wh.moveAt s.moves k).dst ∧ 1 ≤ (Wh.moveAt s.moves k).n ∧ (Wh.moveAt s.moves k).n ≤ 200 :=
  moveOk_iff.1 (all_at dMove (formed_iff.1 h.form).2.2.2.1 hk)
theorem inn : s.inn.length = p.sizes.length ∧ ∀ {g}, g < p.sizes.length → 0 ≤ intAt s.inn g ∧ intAt s.inn g ≤ 1048576 := by
  obtain ⟨h1, h2⟩ := sumsOk_iff.1 (formed_iff.1 h.form).2.2.2.2.1
  exact ⟨h1, fun hg => within_iff.1 (all_at 0 h2 (by omega))⟩
theorem out : s.out.length = p.sizes.length ∧ ∀ {g}, g < p.sizes.length → 0 ≤ intAt s.out g ∧ intAt s.out g ≤ 1048576 := by
  obtain ⟨h1, h2⟩ := sumsOk_iff.1 (formed_iff.1 h.form).2.2.2.2.2.1
  exact ⟨h1, fun hg => within_iff.1 (all_at 0 h2 (by omega))⟩
theorem fixed : s.fixed.length = p.sizes.length ∧ ∀ {g}, g < p.sizes.length → -1048576 ≤ intAt s.fixed g ∧ intAt s.fixed g ≤ 1048576 := by
  obtain ⟨h1, h2⟩ := sumsOk_iff.1 (formed_iff.1 h.form).2.2.2.2.2.2
  exact ⟨h1, fun hg => within_iff.1 (all_at 0 h2 (by omega))⟩
theorem onLen : s.on.length = p.bins.length := right_len h.shelf
theorem rowLen {b : Nat} (hb : b < p.bins.length) : (rowAt s.on b).length = p.sizes.length := right_row h.shelf (by rw [h.onLen]; exact hb)
theorem cell {b g : Nat} (hb : b < p.bins.length) (hg : g < p.sizes.length) : 0 ≤ cell s.on b g ∧ Wh.cell s.on b g ≤ 200 := right_cell h.shelf (by rw [h.onLen]; exact hb) hg
theorem counts : 1 ≤ p.bins.length ∧ p.bins.length ≤ 6 ∧ 1 ≤ p.sizes.length ∧ p.sizes.length ≤ 3 := right_counts h.plan
end Sane

theorem checkState_shelf {p : Plan} {s : State} (h : checkShelf p s.on ≠ 0) : checkState p s = checkShelf p s.on := by unfold checkState; rw [if_pos h]
theorem checkState_many {p : Plan} {s : State} (h : checkShelf p s.on = 0) (h2 : manyOk s = false) : checkState p s = 2 := by
  unfold checkState
  rw [if_neg (fun hn => hn h), h2]; rfl
theorem checkState_form {p : Plan} {s : State} (h : checkShelf p s.on = 0) (h2 : manyOk s = true) (h3 : formed p s = false) : checkState p s = 1 := by
  unfold checkState
  rw [if_neg (fun hn => hn h), h2, h3]; rfl
theorem checkState_sum {p : Plan} {s : State} (h : Sane p s) (h4 : summed p s = false) : checkState p s = 7 := by
  unfold checkState
  rw [if_neg (fun hn => hn h.shelf), h.many, h.form, h4]; rfl
theorem checkState_ok {p : Plan} {s : State} (h : Sane p s) (h4 : summed p s = true) : checkState p s = 0 := by
  unfold checkState
  rw [if_neg (fun hn => hn h.shelf), h.many, h.form, h4]; rfl
theorem checkState_zero {p : Plan} {s : State} : checkState p s = 0 ↔ Sane p s ∧ summed p s = true := by
  constructor
  · intro h
    unfold checkState at h
    split at h
    · rename_i h1; exact absurd h h1
    · rename_i h1
      cases h2 : manyOk s
      · rw [h2] at h; simp at h
      · cases h3 : formed p s
        · rw [h2, h3] at h; simp at h
        · cases h4 : summed p s
          · rw [h2, h3, h4] at h; simp at h
          · exact ⟨⟨by simpa using h1, h2, h3⟩, rfl⟩
  · rintro ⟨h, h4⟩
    exact checkState_ok h h4

-- sums over what was seen so far
def heldTo (s : State) (b g : Int) (k : Nat) : Int := ((s.holds.take k).map (heldN s b g)).sum
def goingTo (l : List Move) (b g : Int) (k : Nat) : Int := ((l.take k).map (fromN b g)).sum
def comingTo (l : List Move) (b g : Int) (k : Nat) : Int := ((l.take k).map (toN b g)).sum
theorem sum_take {α : Type} (f : α → Int) (l : List α) (d : α) {k : Nat} (hk : k < l.length) : ((l.take (k + 1)).map f).sum = ((l.take k).map f).sum + f (l.getD k d) := by
  rw [List.take_succ_eq_append_getElem hk, List.map_append, List.sum_append]
  simp [hk]
theorem heldTo_succ {s : State} {b g : Int} {k : Nat} (hk : k < s.holds.length) : heldTo s b g (k + 1) = heldTo s b g k + heldN s b g (hold s.holds k) := sum_take _ _ dHold hk
theorem goingTo_succ {l : List Move} {b g : Int} {k : Nat} (hk : k < l.length) : goingTo l b g (k + 1) = goingTo l b g k + fromN b g (moveAt l k) := sum_take _ _ dMove hk
theorem heldTo_all (s : State) (b g : Int) : heldTo s b g s.holds.length = heldIn s b g := by unfold heldTo heldIn; rw [List.take_length]
theorem goingTo_all (l : List Move) (b g : Int) : goingTo l b g l.length = goingOf l b g := by unfold goingTo goingOf; rw [List.take_length]
theorem comingTo_all (l : List Move) (b g : Int) : comingTo l b g l.length = comingOf l b g := by unfold comingTo comingOf; rw [List.take_length]
theorem list_sum_range {l : List Int} {m : Int} (h : ∀ x ∈ l, 0 ≤ x ∧ x ≤ m) : 0 ≤ l.sum ∧ l.sum ≤ l.length * m := by
  induction l with
  | nil => simp
  | cons x l ih =>
    have h1 := h x (by simp)
    have h2 := ih (fun y hy => h y (by simp [hy]))
    rw [List.sum_cons, List.length_cons, Int.natCast_add, Int.add_mul]
    omega
theorem heldTo_range {p : Plan} {s : State} (h : Sane p s) (b g : Int) (k : Nat) : 0 ≤ heldTo s b g k ∧ heldTo s b g k ≤ 14400 := by
  have h72 := ok_len72 h.holds
  have hr := list_sum_range (l := (s.holds.take k).map (heldN s b g)) (m := 200) (fun x hx => by
    obtain ⟨y, hy, rfl⟩ := List.mem_map.1 hx
    obtain ⟨i, hi, rfl⟩ := List.getElem_of_mem (List.mem_of_mem_take hy)
    have := ok_n h.holds hi
    rw [hold_get hi] at this
    unfold heldN
    split <;> omega)
  rw [List.length_map, List.length_take] at hr
  unfold heldTo
  omega
theorem goingTo_range {p : Plan} {s : State} (h : Sane p s) (b g : Int) (k : Nat) : 0 ≤ goingTo s.moves b g k ∧ goingTo s.moves b g k ≤ 1600 := by
  have h8 := h.moves8
  have hr := list_sum_range (l := (s.moves.take k).map (fromN b g)) (m := 200) (fun x hx => by
    obtain ⟨y, hy, rfl⟩ := List.mem_map.1 hx
    obtain ⟨i, hi, rfl⟩ := List.getElem_of_mem (List.mem_of_mem_take hy)
    have := h.moveAt hi
    rw [Wh.moveAt_eq hi] at this
    unfold fromN
    split <;> omega)
  rw [List.length_map, List.length_take] at hr
  unfold goingTo
  omega
theorem comingTo_range {p : Plan} {s : State} (h : Sane p s) (b g : Int) (k : Nat) : 0 ≤ comingTo s.moves b g k ∧ comingTo s.moves b g k ≤ 1600 := by
  have h8 := h.moves8
  have hr := list_sum_range (l := (s.moves.take k).map (toN b g)) (m := 200) (fun x hx => by
    obtain ⟨y, hy, rfl⟩ := List.mem_map.1 hx
    obtain ⟨i, hi, rfl⟩ := List.getElem_of_mem (List.mem_of_mem_take hy)
    have := h.moveAt hi
    rw [Wh.moveAt_eq hi] at this
    unfold toN
    split <;> omega)
  rw [List.length_map, List.length_take] at hr
  unfold comingTo
  omega
theorem bound_range {p : Plan} {s : State} (h : Sane p s) (b g : Int) : 0 ≤ bound s b g ∧ bound s b g ≤ 16000 := by
  have h1 := heldTo_range h b g s.holds.length
  have h2 := goingTo_range h b g s.moves.length
  rw [heldTo_all] at h1
  rw [goingTo_all] at h2
  unfold bound
  omega
theorem coming_range {p : Plan} {s : State} (h : Sane p s) (b g : Int) : 0 ≤ coming s b g ∧ coming s b g ≤ 1600 := by
  have h2 := comingTo_range h b g s.moves.length
  rw [comingTo_all] at h2
  exact h2
end Wh
namespace Wh
open Go Go.RowKit Go.Shelf Go.Proofs
attribute [local go_sem] run_indexAt_letter

set_option maxHeartbeats 1000000 in
theorem slMin (w : World) (v : Value) (l : List Int) (hv : Sl cInt w w.heap.size v l) (hn : 0 < l.length) :
    Calls Tryz.prog 128 #[v] w fun e w' => e = .returned (.int .i64 (lowest l)) ∧ w = w' := by
  obtain ⟨A, c, rfl, hl, hA⟩ := hv
  obtain ⟨hok, hAb, b0⟩ := hA.int hn
  have hn' : 1 ≤ l.length := hn
  simp only [Nat.add_zero] at b0
  go_enter Tryz.func128, Tryz.ntmps128
  go_wp2_with fail
  go_loop [3, 4] (fun m i => ∃ k : Nat, k + 1 ≤ l.length ∧ i = .int .i64 (k + 1 : Nat) ∧ m = .int .i64 (minTo (intAt l) k)) (fun _ i => l.length - (intOf i).toNat)
  case atStart => exact ⟨0, hn', rfl, rfl⟩
  case round =>
    obtain ⟨k, hk, rfl, rfl⟩ := hrel
    by_cases hlt : k + 1 < l.length
    · obtain ⟨_, _, b1⟩ := hA.int hlt
      go_wp2_with fail
      go_round
      case rel => exact ⟨k + 1, by omega, by go_num, by rw [minTo]; congr 1; split <;> omega⟩
      case measure => simp [intOf]; omega
    · obtain rfl : k = l.length - 1 := by omega
      go_wp2_with fail
      go_ret
      exact ⟨rfl, rfl⟩
set_option maxHeartbeats 1000000 in
theorem slMax (w : World) (v : Value) (l : List Int) (hv : Sl cInt w w.heap.size v l) (hn : 0 < l.length) :
    Calls Tryz.prog 129 #[v] w fun e w' => e = .returned (.int .i64 (greatest l)) ∧ w = w' := by
  obtain ⟨A, c, rfl, hl, hA⟩ := hv
  obtain ⟨hok, hAb, b0⟩ := hA.int hn
  have hn' : 1 ≤ l.length := hn
  simp only [Nat.add_zero] at b0
  go_enter Tryz.func129, Tryz.ntmps129
  go_wp2_with fail
  go_loop [3, 4] (fun m i => ∃ k : Nat, k + 1 ≤ l.length ∧ i = .int .i64 (k + 1 : Nat) ∧ m = .int .i64 (maxTo (intAt l) k)) (fun _ i => l.length - (intOf i).toNat)
  case atStart => exact ⟨0, hn', rfl, rfl⟩
  case round =>
    obtain ⟨k, hk, rfl, rfl⟩ := hrel
    by_cases hlt : k + 1 < l.length
    · obtain ⟨_, _, b1⟩ := hA.int hlt
      go_wp2_with fail
      go_round
      case rel => exact ⟨k + 1, by omega, by go_num, by rw [maxTo]; congr 1; split <;> omega⟩
      case measure => simp [intOf]; omega
    · obtain rfl : k = l.length - 1 := by omega
      go_wp2_with fail
      go_ret
      exact ⟨rfl, rfl⟩
end Wh
