/- Texts of the claim, joined: PlainB. -/
import Derived.Test.YtnjgkhcnialplaaP03
namespace Wh

def rises (l : List Hold) : Prop := l.Pairwise fun a b => place a < place b
def fine (l : List Hold) : Prop := ∀ h ∈ l, holdFine h = true
/-- A key that a right hold may have. -/
def keyOk (o ln b : Int) : Prop := (0 ≤ o ∧ o ≤ 3) ∧ (0 ≤ ln ∧ ln ≤ 2) ∧ (0 ≤ b ∧ b ≤ 5)
theorem fine_iff {h : Hold} : holdFine h = true ↔ keyOk h.order h.line h.bin ∧ 1 ≤ h.n ∧ h.n ≤ 200 := by
  simp only [holdFine, Bool.and_eq_true, within_iff, keyOk]
  omega
theorem place_inj {a b : Hold} (ha : keyOk a.order a.line a.bin) (hb : keyOk b.order b.line b.bin) (h : place a = place b) : a.order = b.order ∧ a.line = b.line ∧ a.bin = b.bin := by
  unfold keyOk at ha hb
  unfold place at h
  omega
theorem place_congr {a b : Hold} (h : a.order = b.order ∧ a.line = b.line ∧ a.bin = b.bin) : place a = place b := by
  unfold place
  rw [h.1, h.2.1, h.2.2]

theorem hold_get {l : List Hold} {k : Nat} (hk : k < l.length) : hold l k = l[k] := by simp [hold, hk]
theorem holdsOk_iff {l : List Hold} : holdsOk l = true ↔ fine l ∧ rises l := by
  simp only [holdsOk, List.all_eq_true, List.mem_range, Bool.and_eq_true, Bool.or_eq_true, decide_eq_true_eq]
  constructor
  · intro h
    have hstep : ∀ k, k + 1 < l.length → place (hold l k) < place (hold l (k + 1)) := fun k hk => by
      rcases (h (k + 1) hk).2 with h1 | h1
      · omega
      · simpa using h1
    have hmono : ∀ d i, i + d + 1 < l.length → place (hold l i) < place (hold l (i + d + 1)) := by
      intro d
      induction d with
      | zero => exact fun i hi => hstep i (by omega)
      | succ d ih =>
        intro i hi
        have h1 := ih i (by omega)
        have h2 := hstep (i + d + 1) (by omega)
        rw [show i + (d + 1) + 1 = i + d + 1 + 1 by omega]
        omega
    refine ⟨fun x hx => ?_, ?_⟩
    · obtain ⟨k, hk, rfl⟩ := List.getElem_of_mem hx
      rw [← hold_get hk]
      exact (h k hk).1
    · refine List.pairwise_iff_getElem.2 fun i j hi hj hij => ?_
      have := hmono (j - i - 1) i (by omega)
      rw [show i + (j - i - 1) + 1 = j by omega, hold_get hi, hold_get hj] at this
      exact this
  · rintro ⟨h1, h2⟩ k hk
    refine ⟨by rw [hold_get hk]; exact h1 _ (List.getElem_mem hk), ?_⟩
    by_cases h0 : k = 0
    · exact .inl h0
    · refine .inr ?_
      rw [hold_get hk, hold_get (show k - 1 < l.length by omega)]
      exact List.pairwise_iff_getElem.1 h2 (k - 1) k (by omega) hk (by omega)

theorem sameKey_iff {o ln b : Int} {h : Hold} : sameKey o ln b h = true ↔ h.order = o ∧ h.line = ln ∧ h.bin = b := by
  simp [sameKey, and_assoc]
theorem keptAt_mem {l : List Hold} (_hf : fine l) (hr : rises l) {h : Hold} (hm : h ∈ l) : keptAt l h.order h.line h.bin = h.n := by
  unfold keptAt
  cases hx : l.find? (sameKey h.order h.line h.bin) with
  | none =>
    have := List.find?_eq_none.1 hx h hm
    simp [sameKey] at this
  | some x =>
    have h1 := sameKey_iff.1 (List.find?_some hx)
    have h2 := List.mem_of_find?_eq_some hx
    have h3 : place x = place h := place_congr h1
    have h4 : x = h := by
      obtain ⟨i, hi, rfl⟩ := List.getElem_of_mem h2
      obtain ⟨j, hj, rfl⟩ := List.getElem_of_mem hm
      rcases Nat.lt_trichotomy i j with h5 | rfl | h5
      · have := List.pairwise_iff_getElem.1 hr i j hi hj h5; omega
      · rfl
      · have := List.pairwise_iff_getElem.1 hr j i hj hi h5; omega
    rw [h4]
theorem keptAt_none {l : List Hold} {o ln b : Int} (h : ∀ x ∈ l, ¬ (x.order = o ∧ x.line = ln ∧ x.bin = b)) : keptAt l o ln b = 0 := by
  unfold keptAt
  cases hx : l.find? (sameKey o ln b) with
  | none => rfl
  | some x => exact absurd (sameKey_iff.1 (List.find?_some hx)) (h x (List.mem_of_find?_eq_some hx))
theorem keptAt_or {l : List Hold} (hf : fine l) (hr : rises l) (o ln b : Int) :
    (∃ h ∈ l, h.order = o ∧ h.line = ln ∧ h.bin = b ∧ keptAt l o ln b = h.n) ∨ ((∀ x ∈ l, ¬ (x.order = o ∧ x.line = ln ∧ x.bin = b)) ∧ keptAt l o ln b = 0) := by
  by_cases h : ∃ x ∈ l, x.order = o ∧ x.line = ln ∧ x.bin = b
  · obtain ⟨x, hx, rfl, rfl, rfl⟩ := h
    exact .inl ⟨x, hx, rfl, rfl, rfl, keptAt_mem hf hr hx⟩
  · refine .inr ⟨fun x hx he => h ⟨x, hx, he⟩, keptAt_none fun x hx he => h ⟨x, hx, he⟩⟩
theorem keptAt_range {l : List Hold} (hf : fine l) (hr : rises l) (o ln b : Int) : 0 ≤ keptAt l o ln b ∧ keptAt l o ln b ≤ 200 := by
  rcases keptAt_or hf hr o ln b with ⟨h, hm, _, _, _, he⟩ | ⟨_, he⟩
  · have := fine_iff.1 (hf h hm); omega
  · omega
theorem keptAt_key {l : List Hold} (hf : fine l) (hr : rises l) {o ln b : Int} (h : keptAt l o ln b ≠ 0) : keyOk o ln b ∧ ⟨o, ln, b, keptAt l o ln b⟩ ∈ l := by
  rcases keptAt_or hf hr o ln b with ⟨h', hm, rfl, rfl, rfl, he⟩ | ⟨_, he⟩
  · exact ⟨(fine_iff.1 (hf h' hm)).1, by rw [he]; exact hm⟩
  · exact absurd he h
theorem mem_iff {l : List Hold} (hf : fine l) (hr : rises l) {h : Hold} : h ∈ l ↔ keptAt l h.order h.line h.bin = h.n ∧ h.n ≠ 0 := by
  constructor
  · intro hm
    have := fine_iff.1 (hf h hm)
    exact ⟨keptAt_mem hf hr hm, by omega⟩
  · rintro ⟨h1, h2⟩
    have := (keptAt_key hf hr (o := h.order) (ln := h.line) (b := h.bin) (by omega)).2
    rw [h1] at this
    exact this
theorem rises_ext : ∀ {l m : List Hold}, rises l → rises m → (∀ h, h ∈ l ↔ h ∈ m) → l = m
  | [], [], _, _, _ => rfl
  | [], y :: m, _, _, h => absurd ((h y).2 (List.mem_cons_self ..)) (by simp)
  | x :: l, [], _, _, h => absurd ((h x).1 (List.mem_cons_self ..)) (by simp)
  | x :: l, y :: m, hl, hm, h => by
    have hl' := List.pairwise_cons.1 hl
    have hm' := List.pairwise_cons.1 hm
    have hxy : x = y := by
      rcases List.mem_cons.1 ((h x).1 (List.mem_cons_self ..)) with h1 | h1
      · exact h1
      · rcases List.mem_cons.1 ((h y).2 (List.mem_cons_self ..)) with h2 | h2
        · exact h2.symm
        · have h3 := hm'.1 x h1
          have h4 := hl'.1 y h2
          omega
    subst hxy
    have hlm : l = m := rises_ext hl'.2 hm'.2 fun z => by
      constructor
      · intro hz
        rcases List.mem_cons.1 ((h z).1 (List.mem_cons_of_mem _ hz)) with rfl | h1
        · exact absurd (hl'.1 z hz) (by omega)
        · exact h1
      · intro hz
        rcases List.mem_cons.1 ((h z).2 (List.mem_cons_of_mem _ hz)) with rfl | h1
        · exact absurd (hm'.1 z hz) (by omega)
        · exact h1
    rw [hlm]
/-- Right holds are known by how many each place keeps. -/
theorem holds_ext {l m : List Hold} (hl : holdsOk l = true) (hm : holdsOk m = true) (h : ∀ o ln b, keptAt l o ln b = keptAt m o ln b) : l = m := by
  rw [holdsOk_iff] at hl hm
  exact rises_ext hl.2 hm.2 fun x => by rw [mem_iff hl.1 hl.2, mem_iff hm.1 hm.2, h]

theorem with_mem {l : List Hold} {h x : Hold} : x ∈ withHold l h ↔ (x ∈ l ∧ place x ≠ place h) ∨ (x = h ∧ h.n ≠ 0) := by
  unfold withHold
  simp only [List.mem_append, List.mem_filter, decide_eq_true_eq]
  by_cases h0 : h.n = 0
  · simp only [h0, ite_true, List.not_mem_nil, or_false, ne_eq, not_true_eq_false, and_false, or_false]
    constructor
    · rintro (⟨h1, h2⟩ | ⟨h1, h2⟩)
      · exact ⟨h1, by omega⟩
      · exact ⟨h1, by omega⟩
    · rintro ⟨h1, h2⟩
      rcases Int.lt_or_lt_of_ne h2 with h3 | h3
      · exact .inl ⟨h1, h3⟩
      · exact .inr ⟨h1, h3⟩
  · simp only [h0, ite_false, List.mem_singleton, ne_eq, not_false_eq_true, and_true]
    constructor
    · rintro ((⟨h1, h2⟩ | h1) | ⟨h1, h2⟩)
      · exact .inl ⟨h1, by omega⟩
      · exact .inr h1
      · exact .inl ⟨h1, by omega⟩
    · rintro (⟨h1, h2⟩ | h1)
      · rcases Int.lt_or_lt_of_ne h2 with h3 | h3
        · exact .inl (.inl ⟨h1, h3⟩)
        · exact .inr ⟨h1, h3⟩
      · exact .inl (.inr h1)
theorem with_rises {l : List Hold} {h : Hold} (hr : rises l) : rises (withHold l h) := by
  unfold withHold rises
  rw [List.pairwise_append, List.pairwise_append]
  refine ⟨⟨hr.filter _, ?_, ?_⟩, hr.filter _, ?_⟩
  · split <;> simp
  · intro a ha b hb
    simp only [List.mem_filter, decide_eq_true_eq] at ha
    split at hb
    · simp at hb
    · obtain rfl := List.mem_singleton.1 hb
      exact ha.2
  · intro a ha b hb
    simp only [List.mem_filter, decide_eq_true_eq] at hb
    rcases List.mem_append.1 ha with ha | ha
    · simp only [List.mem_filter, decide_eq_true_eq] at ha
      omega
    · split at ha
      · simp at ha
      · obtain rfl := List.mem_singleton.1 ha
        exact hb.2
theorem with_ok {l : List Hold} {h : Hold} (hl : holdsOk l = true) (hk : keyOk h.order h.line h.bin) (hn : 0 ≤ h.n ∧ h.n ≤ 200) : holdsOk (withHold l h) = true := by
  rw [holdsOk_iff] at hl ⊢
  refine ⟨fun x hx => ?_, with_rises hl.2⟩
  rcases with_mem.1 hx with ⟨h1, _⟩ | ⟨rfl, h1⟩
  · exact hl.1 x h1
  · exact fine_iff.2 ⟨hk, by omega, hn.2⟩
theorem keptAt_with {l : List Hold} {h : Hold} (hl : holdsOk l = true) (hk : keyOk h.order h.line h.bin) (hn : 0 ≤ h.n ∧ h.n ≤ 200) (o ln b : Int) :
    keptAt (withHold l h) o ln b = if h.order = o ∧ h.line = ln ∧ h.bin = b then h.n else keptAt l o ln b := by
  have hw := with_ok hl hk hn
  rw [holdsOk_iff] at hw hl
  split
  · rename_i he
    obtain ⟨rfl, rfl, rfl⟩ := he
    by_cases h0 : h.n = 0
    · rw [h0]
      refine keptAt_none fun x hx he => ?_
      rcases with_mem.1 hx with ⟨_, h2⟩ | ⟨_, h2⟩
      · exact h2 (place_congr he)
      · exact h2 h0
    · exact keptAt_mem hw.1 hw.2 (with_mem.2 (.inr ⟨rfl, h0⟩))
  · rename_i he
    rcases keptAt_or hl.1 hl.2 o ln b with ⟨x, hx, rfl, rfl, rfl, e⟩ | ⟨h1, e⟩
    · rw [e]
      refine keptAt_mem hw.1 hw.2 (with_mem.2 (.inl ⟨hx, fun hp => ?_⟩))
      have := place_inj (fine_iff.1 (hl.1 x hx)).1 hk hp
      exact he ⟨this.1.symm, this.2.1.symm, this.2.2.symm⟩
    · rw [e]
      refine keptAt_none fun x hx hxe => ?_
      rcases with_mem.1 hx with ⟨h2, _⟩ | ⟨rfl, _⟩
      · exact h1 x h2 hxe
      · exact he hxe

/-- How many all of a line have together: bin by bin. -/
theorem kept_bins {l : List Hold} (hl : holdsOk l = true) (o ln : Int) : kept l o ln = sumTo (fun b => keptAt l o ln b) 6 := by
  have key : ∀ l : List Hold, fine l → rises l → kept l o ln = sumTo (fun b => keptAt l o ln b) 6 := by
    intro l
    induction l with
    | nil => intro _ _; simp [kept, keptAt, sumTo]
    | cons x l ih =>
      intro hf hr
      have hf' : fine l := fun h hm => hf h (List.mem_cons_of_mem _ hm)
      have hr' := List.pairwise_cons.1 hr
      have ih' := ih hf' hr'.2
      have hx := fine_iff.1 (hf x (List.mem_cons_self ..))
      have hcons : ∀ b, keptAt (x :: l) o ln b = if x.order = o ∧ x.line = ln ∧ x.bin = b then x.n else keptAt l o ln b := by
        intro b
        unfold keptAt
        rw [List.find?_cons]
        by_cases hk : x.order = o ∧ x.line = ln ∧ x.bin = b
        · rw [if_pos hk, sameKey_iff.2 hk]
        · rw [if_neg hk, show sameKey o ln b x = false by rw [← Bool.not_eq_true, sameKey_iff]; exact hk]
      by_cases hs : x.order = o ∧ x.line = ln
      · have h0 : keptAt l o ln x.bin = 0 := keptAt_none fun y hy he => by
          have h1 := hr'.1 y hy
          rw [place_congr ⟨hs.1.trans he.1.symm, hs.2.trans he.2.1.symm, he.2.2.symm⟩] at h1
          omega
        have hk1 : kept (x :: l) o ln = kept l o ln + x.n := by
          unfold kept
          rw [List.filter_cons_of_pos (by simp [sameLine, hs.1, hs.2])]
          simp [Int.add_comm]
        rw [hk1, ih']
        refine (sumTo_one (f := fun b => keptAt l o ln b) (g := fun b => keptAt (x :: l) o ln b) (i := x.bin.toNat) (d := x.n) ?_ ?_ ?_).symm
        · have := hx.1.2.2; omega
        · intro b _ hb
          show keptAt (x :: l) o ln b = keptAt l o ln b
          rw [hcons, if_neg (by have := hx.1.2.2; omega)]
        · have hb := hx.1.2.2
          show keptAt (x :: l) o ln (x.bin.toNat : Int) = keptAt l o ln (x.bin.toNat : Int) + x.n
          rw [Int.toNat_of_nonneg hb.1, hcons, if_pos ⟨hs.1, hs.2, rfl⟩, h0]
          omega
      · have hk1 : kept (x :: l) o ln = kept l o ln := by
          unfold kept
          rw [List.filter_cons_of_neg (by simp [sameLine]; exact fun h => fun h' => hs ⟨h, h'⟩)]
        rw [hk1, ih']
        refine sumTo_congr fun b _ => ?_
        show _ = keptAt (x :: l) o ln b
        rw [hcons, if_neg (fun he => hs ⟨he.1, he.2.1⟩)]
  rw [holdsOk_iff] at hl
  exact key l hl.1 hl.2
theorem kept_with {l : List Hold} {h : Hold} (hl : holdsOk l = true) (hk : keyOk h.order h.line h.bin) (hn : 0 ≤ h.n ∧ h.n ≤ 200) (o ln : Int) :
    kept (withHold l h) o ln = kept l o ln + if h.order = o ∧ h.line = ln then h.n - keptAt l h.order h.line h.bin else 0 := by
  rw [kept_bins (with_ok hl hk hn), kept_bins hl]
  by_cases hs : h.order = o ∧ h.line = ln
  · rw [if_pos hs]
    obtain ⟨rfl, rfl⟩ := hs
    refine sumTo_one (i := h.bin.toNat) (by have := hk.2.2; omega) (fun b _ hb => ?_) ?_
    · show keptAt (withHold l h) _ _ _ = _
      rw [keptAt_with hl hk hn, if_neg (by have := hk.2.2; omega)]
    · show keptAt (withHold l h) _ _ _ = _
      rw [keptAt_with hl hk hn, if_pos ⟨rfl, rfl, by have := hk.2.2; omega⟩]
      rw [show ((h.bin.toNat : Nat) : Int) = h.bin by have := hk.2.2; omega]
      omega
  · rw [if_neg hs, Int.add_zero]
    refine sumTo_congr fun b _ => ?_
    show keptAt (withHold l h) _ _ _ = _
    rw [keptAt_with hl hk hn, if_neg (fun he => hs ⟨he.1, he.2.1⟩)]
theorem kept_range {l : List Hold} (hl : holdsOk l = true) (o ln : Int) : 0 ≤ kept l o ln ∧ kept l o ln ≤ 1200 := by
  rw [kept_bins hl]
  rw [holdsOk_iff] at hl
  have := sumTo_bounds (f := fun b => keptAt l o ln b) (n := 6) (m := 200) fun b _ => keptAt_range hl.1 hl.2 o ln b
  omega

theorem add_right {l : List Hold} {h : Hold} (he : (add l h).2 = 0) :
    holdsOk l = true ∧ holdFine h = true ∧ keptAt l h.order h.line h.bin + h.n ≤ 200 ∧ (add l h).1 = withHold l { h with n := keptAt l h.order h.line h.bin + h.n } := by
  unfold add at he ⊢
  cases h1 : holdsOk l
  · simp [h1] at he
  · cases h2 : holdFine h
    · simp [h1, h2] at he
    · simp only [h1, h2, Bool.not_true, Bool.false_eq_true, ite_false] at he ⊢
      split at he
      · simp at he
      · rename_i h3
        rw [if_neg h3]
        exact ⟨trivial, trivial, by omega, rfl⟩
theorem add_ok {l : List Hold} {h : Hold} (he : (add l h).2 = 0) : holdsOk (add l h).1 = true := by
  obtain ⟨h1, h2, h3, h4⟩ := add_right he
  rw [h4]
  have h5 := fine_iff.1 h2
  have h6 := h1
  rw [holdsOk_iff] at h6
  have h7 := keptAt_range h6.1 h6.2 h.order h.line h.bin
  exact with_ok (h := { h with n := keptAt l h.order h.line h.bin + h.n }) h1 h5.1 ⟨by simp only; omega, by simp only; omega⟩
theorem keptAt_add {l : List Hold} {h : Hold} (he : (add l h).2 = 0) (o ln b : Int) :
    keptAt (add l h).1 o ln b = keptAt l o ln b + if h.order = o ∧ h.line = ln ∧ h.bin = b then h.n else 0 := by
  obtain ⟨h1, h2, h3, h4⟩ := add_right he
  rw [h4]
  have h5 := fine_iff.1 h2
  have h6 := h1
  rw [holdsOk_iff] at h6
  have h7 := keptAt_range h6.1 h6.2 h.order h.line h.bin
  rw [keptAt_with (h := { h with n := keptAt l h.order h.line h.bin + h.n }) h1 h5.1 ⟨by simp only; omega, by simp only; omega⟩]
  simp only
  split
  · rename_i hk
    obtain ⟨rfl, rfl, rfl⟩ := hk
    rfl
  · omega
theorem kept_add {l : List Hold} {h : Hold} (he : (add l h).2 = 0) (o ln : Int) :
    kept (add l h).1 o ln = kept l o ln + if h.order = o ∧ h.line = ln then h.n else 0 := by
  obtain ⟨h1, h2, h3, h4⟩ := add_right he
  rw [h4]
  have h5 := fine_iff.1 h2
  have h6 := h1
  rw [holdsOk_iff] at h6
  have h7 := keptAt_range h6.1 h6.2 h.order h.line h.bin
  rw [kept_with (h := { h with n := keptAt l h.order h.line h.bin + h.n }) h1 h5.1 ⟨by simp only; omega, by simp only; omega⟩]
  simp only
  split <;> omega
theorem drop_right {l : List Hold} {o ln b : Int} (hl : holdsOk l = true) :
    (keptAt l o ln b = 0 ∧ drop l o ln b = ([], 0, 4)) ∨ (keptAt l o ln b ≠ 0 ∧ keyOk o ln b ∧ drop l o ln b = (withHold l ⟨o, ln, b, 0⟩, keptAt l o ln b, 0)) := by
  unfold drop
  by_cases h : keptAt l o ln b = 0
  · exact .inl ⟨h, by simp [hl, h]⟩
  · have h6 := hl
    rw [holdsOk_iff] at h6
    exact .inr ⟨h, (keptAt_key h6.1 h6.2 h).1, by simp [hl, h]⟩

/-- What is added is kept more; what comes is right; what is added and dropped again, where nothing was, is as it was. -/
theorem holds_true {l : List Hold} {h : Hold} (he : (add l h).2 = 0) :
    holdsOk l = true ∧ holdsOk (add l h).1 = true ∧ kept (add l h).1 h.order h.line = kept l h.order h.line + h.n ∧
    (drop (add l h).1 h.order h.line h.bin).2.2 = 0 ∧ h.n ≤ (drop (add l h).1 h.order h.line h.bin).2.1 ∧
    (drop (add l h).1 h.order h.line h.bin).1 = if (drop l h.order h.line h.bin).2.2 = 4 then l else (drop l h.order h.line h.bin).1 := by
  obtain ⟨h1, h2, h3, h4⟩ := add_right he
  have h5 := fine_iff.1 h2
  have ho := add_ok he
  have h6 := h1
  rw [holdsOk_iff] at h6
  have h7 := keptAt_range h6.1 h6.2 h.order h.line h.bin
  have hk := keptAt_add he h.order h.line h.bin
  rw [if_pos ⟨rfl, rfl, rfl⟩] at hk
  rcases drop_right (o := h.order) (ln := h.line) (b := h.bin) ho with ⟨h8, _⟩ | ⟨h8, _, h9⟩
  · omega
  · have hz : holdsOk (withHold (add l h).1 ⟨h.order, h.line, h.bin, 0⟩) = true := with_ok (h := ⟨h.order, h.line, h.bin, 0⟩) ho h5.1 ⟨by simp, by simp⟩
    rw [h9]
    refine ⟨h1, ho, ?_, rfl, ?_, ?_⟩
    · rw [kept_add he, if_pos ⟨rfl, rfl⟩]
    · show h.n ≤ keptAt _ _ _ _
      omega
    · show withHold _ _ = _
      rcases drop_right (o := h.order) (ln := h.line) (b := h.bin) h1 with ⟨h10, h11⟩ | ⟨h10, _, h11⟩
      · rw [h11, if_pos rfl]
        refine holds_ext hz h1 fun o ln b => ?_
        rw [keptAt_with (h := ⟨h.order, h.line, h.bin, 0⟩) ho h5.1 ⟨by simp, by simp⟩, keptAt_add he]
        simp only
        split
        · rename_i hq; obtain ⟨rfl, rfl, rfl⟩ := hq; exact h10.symm
        · omega
      · rw [h11, if_neg (by simp)]
        refine holds_ext hz (with_ok (h := ⟨h.order, h.line, h.bin, 0⟩) h1 h5.1 ⟨by simp, by simp⟩) fun o ln b => ?_
        rw [keptAt_with (h := ⟨h.order, h.line, h.bin, 0⟩) ho h5.1 ⟨by simp, by simp⟩, keptAt_add he, keptAt_with (h := ⟨h.order, h.line, h.bin, 0⟩) h1 h5.1 ⟨by simp, by simp⟩]
        simp only
        split <;> omega

theorem add_err {l : List Hold} {h : Hold} (h1 : holdsOk l = true) (h2 : holdFine h = true) : (add l h).2 = if 200 < keptAt l h.order h.line h.bin + h.n then 3 else 0 := by
  unfold add
  simp only [h1, h2, Bool.not_true, Bool.false_eq_true, ite_false]
  split <;> rfl
/-- Two holds are added alike, whichever comes first. -/
theorem holds_order {l : List Hold} {a b : Hold} (ha : (add l a).2 = 0) (hb : (add l b).2 = 0) :
    (add (add l a).1 b).2 = (add (add l b).1 a).2 ∧ (add (add l a).1 b).1 = (add (add l b).1 a).1 ∧
    (a.order = b.order ∧ a.line = b.line ∨ kept l b.order b.line = kept (add l a).1 b.order b.line) := by
  obtain ⟨h1, h2, h3, h4⟩ := add_right ha
  obtain ⟨_, k2, k3, k4⟩ := add_right hb
  have oa := add_ok ha
  have ob := add_ok hb
  have e1 : (add (add l a).1 b).2 = if 200 < keptAt l b.order b.line b.bin + (if a.order = b.order ∧ a.line = b.line ∧ a.bin = b.bin then a.n else 0) + b.n then 3 else 0 := by
    rw [← keptAt_add ha]
    exact add_err oa k2
  have e2 : (add (add l b).1 a).2 = if 200 < keptAt l a.order a.line a.bin + (if b.order = a.order ∧ b.line = a.line ∧ b.bin = a.bin then b.n else 0) + a.n then 3 else 0 := by
    rw [← keptAt_add hb]
    exact add_err ob h2
  have e3 : (add (add l a).1 b).2 = (add (add l b).1 a).2 := by
    rw [e1, e2]
    by_cases hk : a.order = b.order ∧ a.line = b.line ∧ a.bin = b.bin
    · have hk' : b.order = a.order ∧ b.line = a.line ∧ b.bin = a.bin := ⟨hk.1.symm, hk.2.1.symm, hk.2.2.symm⟩
      rw [if_pos hk, if_pos hk', hk.1, hk.2.1, hk.2.2]
      by_cases hq : 200 < keptAt l b.order b.line b.bin + a.n + b.n
      · rw [if_pos hq, if_pos (by omega)]
      · rw [if_neg hq, if_neg (by omega)]
    · have hk' : ¬ (b.order = a.order ∧ b.line = a.line ∧ b.bin = a.bin) := fun h => hk ⟨h.1.symm, h.2.1.symm, h.2.2.symm⟩
      rw [if_neg hk, if_neg hk', if_neg (by omega), if_neg (by omega)]
  refine ⟨e3, ?_, ?_⟩
  · by_cases h0 : (add (add l a).1 b).2 = 0
    · have h0' : (add (add l b).1 a).2 = 0 := e3 ▸ h0
      refine holds_ext (add_ok h0) (add_ok h0') fun o ln x => ?_
      rw [keptAt_add h0, keptAt_add ha, keptAt_add h0', keptAt_add hb]
      omega
    · have h0' : (add (add l b).1 a).2 ≠ 0 := e3 ▸ h0
      have nil : ∀ m (x : Hold), (add m x).2 ≠ 0 → (add m x).1 = [] := by
        intro m x hx
        unfold add at hx ⊢
        split
        · rfl
        · split
          · rfl
          · split
            · rfl
            · rename_i q1 q2 q3
              simp [q1, q2, q3] at hx
      rw [nil _ _ h0, nil _ _ h0']
  · by_cases hk : a.order = b.order ∧ a.line = b.line
    · exact .inl hk
    · refine .inr ?_
      rw [kept_add ha, if_neg hk, Int.add_zero]

end Wh
