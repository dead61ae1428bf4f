/- Texts of the claim, joined: PlainJ, HoldsA. -/
import Derived.Deep.RegionHeld3
import Derived.Test.YtnjgkhcnialplaaP20
import Derived.Test.YtnjgkhcnialplaaP09
import Derived.Test.YtnjgkhcnialplaaP13
import Derived.Test.YtnjgkhcnialplaaP07
namespace Wh

theorem availE_right {p : Plan} {s : State} {b g : Int} (h : (availE p s b g).2 = 0) : checkState p s = 0 ∧ isBin p b = true ∧ isGood p g = true ∧ (availE p s b g).1 = avail s b g := by
  unfold availE at h ⊢
  by_cases h1 : checkState p s = 0
  · rw [if_neg (fun hn => hn h1)] at h ⊢
    by_cases h2 : (isBin p b && isGood p g) = true
    · rw [h2] at h ⊢
      rw [Bool.and_eq_true] at h2
      exact ⟨h1, h2.1, h2.2, rfl⟩
    · rw [if_pos (by rw [Bool.not_eq_true] at h2; rw [h2]; rfl)] at h
      simp at h
  · rw [if_pos h1] at h
    exact absurd h h1
theorem availE_ok {p : Plan} {s : State} {b g : Int} (h : checkState p s = 0) (hb : isBin p b = true) (hg : isGood p g = true) : availE p s b g = (avail s b g, 0) := by
  unfold availE
  rw [if_neg (fun hn => hn h), hb, hg]; rfl
theorem freeE_ok {p : Plan} {s : State} {b : Int} (h : checkState p s = 0) (hb : isBin p b = true) : freeE p s b = (free p s b, 0) := by
  unfold freeE
  rw [if_neg (fun hn => hn h), hb]; rfl
theorem bin_nat {p : Plan} {b : Int} (h : isBin p b = true) : ∃ n : Nat, b = n ∧ n < p.bins.length := by
  have := isBin_iff.1 h
  exact ⟨b.toNat, by omega, by omega⟩
theorem good_nat {p : Plan} {g : Int} (h : isGood p g = true) : ∃ n : Nat, g = n ∧ n < p.sizes.length := by
  have := isGood_iff.1 h
  exact ⟨g.toNat, by omega, by omega⟩

theorem state_true {p : Plan} {s : State} {b g : Int} (h : (availE p s b g).2 = 0) :
    (0 ≤ b ∧ b < s.on.length) ∧ (0 ≤ g ∧ g < s.inn.length ∧ g < s.out.length ∧ g < s.fixed.length ∧ g < (rowAt s.on b.toNat).length) ∧ (0 ≤ (availE p s b g).1 ∧ (availE p s b g).1 ≤ cell s.on b.toNat g.toNat) ∧
    shelfError p s.on 0 g = 0 ∧ sumE p s.on g = intAt s.inn g.toNat - intAt s.out g.toNat + intAt s.fixed g.toNat := by
  obtain ⟨h1, h2, h3, h4⟩ := availE_right h
  have hr := right_of_check h1
  obtain ⟨bn, rfl, hbn⟩ := bin_nat h2
  obtain ⟨gn, rfl, hgn⟩ := good_nat h3
  have hc := hr.sane.counts
  have e0 : shelfError p s.on 0 gn = 0 := shelfError_zero.2 ⟨hr.sane.shelf, isBin_iff.2 (by omega), h3⟩
  refine ⟨by rw [hr.sane.onLen]; omega, ?_, ?_, e0, ?_⟩
  · rw [hr.sane.inn.1, hr.sane.out.1, hr.sane.fixed.1, Int.toNat_natCast, hr.sane.rowLen hbn]
    omega
  · rw [h4]
    simp only [Int.toNat_natCast]
    exact hr.avail_range hbn hgn
  · unfold sumE
    rw [if_pos e0]
    exact hr.sum hgn

-- what is begun
theorem intAt_rep (n i : Nat) : intAt (List.replicate n 0) i = 0 := by
  unfold intAt
  by_cases h : i < n <;> simp [h]
theorem cell_rep (n m b g : Nat) : cell (List.replicate n (List.replicate m 0)) b g = 0 := by
  unfold cell rowAt
  by_cases h : b < n
  · simp [h, intAt_rep]
  · simp [h, intAt]
theorem sumTo_zero {f : Nat → Int} {n : Nat} (h : ∀ k, k < n → f k = 0) : sumTo f n = 0 := by
  induction n with
  | zero => rfl
  | succ n ih =>
    show sumTo f n + f n = 0
    rw [ih fun k hk => h k (by omega), h n (by omega)]
    rfl
theorem begin_right {p : Plan} (h : checkPlan p = 0) : checkState p (begin p) = 0 := by
  have hc := right_counts h
  have hsum : sumsOk p (List.replicate p.sizes.length 0) 0 = true := sumsOk_iff.2 ⟨by simp, all_of 0 fun k hk => by
    have := intAt_rep p.sizes.length k
    unfold intAt at this
    rw [this]; rfl⟩
  have hsum2 : sumsOk p (List.replicate p.sizes.length 0) (-1048576) = true := sumsOk_iff.2 ⟨by simp, all_of 0 fun k hk => by
    have := intAt_rep p.sizes.length k
    unfold intAt at this
    rw [this]; rfl⟩
  refine check_iff.2 ⟨Right.of (Sane.of ?_ (by show (0 : Nat) ≤ 4; omega) (by show (0 : Nat) ≤ 8; omega) (fun o ho => by cases ho) (fun o k ho => by cases ho) rfl (fun x hx => by cases hx) (fun x hx => by cases hx) hsum hsum hsum2) (fun g hg => ?_) (fun b g hb hg => ?_) (fun o k ho => by cases ho), fun o ho => by cases ho⟩
  · refine checkShelf_all h (by simp [begin]) fun k hk => ?_
    have hk' : k < p.bins.length := by simpa [begin] using hk
    have e : rowAt (begin p).on k = List.replicate p.sizes.length 0 := by simp [begin, rowAt, hk']
    rw [e]
    refine rowOk_all (by simp) fun j hj => ?_
    rw [intAt_rep]; rfl
  · show sumOf (List.replicate p.bins.length (List.replicate p.sizes.length 0)) g = intAt (List.replicate p.sizes.length 0) g - intAt (List.replicate p.sizes.length 0) g + intAt (List.replicate p.sizes.length 0) g
    rw [intAt_rep]
    exact sumTo_zero fun k _ => cell_rep _ _ _ _
  · show (0 : Int) ≤ cell (List.replicate p.bins.length (List.replicate p.sizes.length 0)) b g
    rw [cell_rep]
    exact Int.le_refl _
theorem begin_avail (p : Plan) (b g : Int) : avail (begin p) b g = 0 := by
  unfold avail
  show cell (List.replicate p.bins.length (List.replicate p.sizes.length 0)) b.toNat g.toNat - 0 = 0
  rw [cell_rep]
  rfl
theorem begin_free (p : Plan) (b : Int) : free p (begin p) b = (p.bin b.toNat).room := by
  unfold free
  rw [sumTo_zero, Int.sub_zero]
  intro k _
  show (cell (List.replicate p.bins.length (List.replicate p.sizes.length 0)) b.toNat k + 0) * _ = 0
  rw [cell_rep]
  simp

-- what is received
theorem heldIn_mem {s t : State} (hh : t.holds = s.holds) (hg : ∀ x ∈ s.holds, (t.line x.order.toNat x.line.toNat).good = (s.line x.order.toNat x.line.toNat).good) (b g : Int) : heldIn t b g = heldIn s b g := by
  unfold heldIn
  rw [hh]
  congr 1
  apply List.map_congr_left
  intro h hm
  unfold heldN
  rw [hg h hm]
theorem cell_setCell {on : List (List Int)} {b g b' g' : Nat} {n : Int} (hb : b < on.length) (hg : g < (rowAt on b).length) : cell (setCell on b g n) b' g' = if b' = b ∧ g' = g then n else cell on b' g' := cell_set hb hg
theorem sumOf_setCell {on : List (List Int)} {b g : Nat} {n : Int} (hb : b < on.length) (hg : g < (rowAt on b).length) (g' : Nat) : sumOf (setCell on b g n) g' = sumOf on g' + if g' = g then n - cell on b g else 0 := by
  unfold sumOf
  rw [length_setCell]
  by_cases h : g' = g
  · subst h
    rw [if_pos rfl]
    refine sumTo_one (i := b) hb (fun k hk hne => ?_) ?_
    · show cell _ k g' = _
      rw [cell_setCell hb hg, if_neg (by omega)]
    · show cell _ b g' = _
      rw [cell_setCell hb hg, if_pos ⟨rfl, rfl⟩]
      omega
  · rw [if_neg h, Int.add_zero]
    refine sumTo_congr fun k hk => ?_
    show cell (setCell on b g n) k g' = cell on k g'
    rw [cell_setCell hb hg, if_neg (by omega)]
theorem sumsOk_set {p : Plan} {l : List Int} {lo : Int} (h : sumsOk p l lo = true) {g : Nat} (hg : g < l.length) {n : Int} (h1 : lo ≤ n) (h2 : n ≤ 1048576) : sumsOk p (l.set g n) lo = true := by
  obtain ⟨h3, h4⟩ := sumsOk_iff.1 h
  refine sumsOk_iff.2 ⟨by simpa using h3, all_of 0 fun k hk => ?_⟩
  have e : (l.set g n).getD k 0 = if k = g then n else intAt l k := intAt_set hg
  rw [e]
  split
  · exact within_iff.2 ⟨h1, h2⟩
  · exact all_at 0 h4 (by simpa using hk)
theorem receive_right {p : Plan} {s : State} {b g n : Int} (h : (receive p s b g n).2 = 0) :
    checkState p s = 0 ∧ isBin p b = true ∧ isGood p g = true ∧ (1 ≤ n ∧ n ≤ 200) ∧ n * intAt p.sizes g.toNat ≤ free p s b ∧ cell s.on b.toNat g.toNat + coming s b g + n ≤ 200 ∧ intAt s.inn g.toNat + n ≤ 1048576 ∧
    (receive p s b g n).1 = { s with on := setCell s.on b.toNat g.toNat (cell s.on b.toNat g.toNat + n), inn := s.inn.set g.toNat (intAt s.inn g.toNat + n) } := by
  unfold receive at h ⊢
  by_cases h1 : checkState p s = 0
  · rw [if_neg (fun hn => hn h1)] at h ⊢
    by_cases h2 : (isBin p b && isGood p g && within n 1 200) = true
    · rw [if_neg (by rw [h2]; simp)] at h ⊢
      split at h
      · simp at h
      · rename_i h3
        rw [if_neg h3]
        split at h
        · simp at h
        · rename_i h4
          rw [if_neg h4]
          rw [Bool.and_eq_true, Bool.and_eq_true, within_iff] at h2
          exact ⟨h1, h2.1.1, h2.1.2, h2.2, by omega, by omega, by omega, rfl⟩
    · rw [if_pos (by rw [Bool.not_eq_true] at h2; rw [h2]; rfl)] at h
      simp at h
  · rw [if_pos h1] at h
    exact absurd h h1
theorem received {p : Plan} {s : State} {b g : Nat} {n : Int} (h : checkState p s = 0) (hb : b < p.bins.length) (hg : g < p.sizes.length) (hn : 1 ≤ n) (h2 : cell s.on b g + coming s b g + n ≤ 200) (h3 : intAt s.inn g + n ≤ 1048576) :
    checkState p { s with on := setCell s.on b g (cell s.on b g + n), inn := s.inn.set g (intAt s.inn g + n) } = 0 := by
  obtain ⟨hr, hgot⟩ := check_iff.1 h
  have hs := hr.sane
  have hbl : b < s.on.length := by rw [hs.onLen]; exact hb
  have hgl : g < (rowAt s.on b).length := by rw [hs.rowLen hb]; exact hg
  have hgi : g < s.inn.length := by rw [hs.inn.1]; exact hg
  have hcell := hs.cell hb hg
  have hinn := hs.inn.2 hg
  have hcom := coming_range hs b g
  refine check_iff.2 ⟨Right.of (Sane.of ?_ hs.orders4 hs.moves8 (fun o ho => ⟨hs.lines3 ho, hs.kind ho⟩) (fun o k ho hk => lineOk_iff.2 (hs.line ho hk)) hs.holds (fun x hx => List.all_eq_true.1 (formed_iff.1 hs.form).2.2.1 x hx) (fun x hx => List.all_eq_true.1 (formed_iff.1 hs.form).2.2.2.1 x hx)
    (sumsOk_set (formed_iff.1 hs.form).2.2.2.2.1 hgi (by omega) h3) (formed_iff.1 hs.form).2.2.2.2.2.1 (formed_iff.1 hs.form).2.2.2.2.2.2) (fun g' hg' => ?_) (fun b' g' hb' hg' => ?_) hr.line, hgot⟩
  · exact checkShelf_zero.2 ⟨hs.plan, setCell_ok (checkShelf_zero.1 hs.shelf).2 (by omega) hb hg⟩
  · show sumOf (setCell s.on b g (cell s.on b g + n)) g' = intAt (s.inn.set g (intAt s.inn g + n)) g' - intAt s.out g' + intAt s.fixed g'
    rw [sumOf_setCell hbl hgl, intAt_set hgi, hr.sum hg']
    by_cases e : g' = g
    · subst e
      rw [if_pos rfl, if_pos rfl]
      omega
    · rw [if_neg e, if_neg e]
      omega
  · show bound s b' g' ≤ cell (setCell s.on b g (cell s.on b g + n)) b' g'
    have := hr.bnd hb' hg'
    rw [cell_setCell hbl hgl]
    split
    · rename_i e
      obtain ⟨rfl, rfl⟩ := e
      omega
    · exact this
theorem receive_true {p : Plan} {s : State} {b g n : Int} (h : (receive p s b g n).2 = 0) :
    checkState p (receive p s b g n).1 = 0 ∧ checkState p s = 0 ∧ isBin p b = true ∧ isGood p g = true ∧ avail (receive p s b g n).1 b g = avail s b g + n ∧ 0 ≤ free p (receive p s b g n).1 b := by
  obtain ⟨h1, h2, h3, h4, h5, h6, h7, h8⟩ := receive_right h
  have hr := right_of_check h1
  obtain ⟨bn, rfl, hbn⟩ := bin_nat h2
  obtain ⟨gn, rfl, hgn⟩ := good_nat h3
  simp only [Int.toNat_natCast] at h5 h6 h7 h8
  have hbl : bn < s.on.length := by rw [hr.sane.onLen]; exact hbn
  have hgl : gn < (rowAt s.on bn).length := by rw [hr.sane.rowLen hbn]; exact hgn
  rw [h8]
  refine ⟨received h1 hbn hgn h4.1 h6 h7, h1, h2, h3, ?_, ?_⟩
  · unfold avail
    show cell (setCell s.on bn gn (cell s.on bn gn + n)) (bn : Int).toNat (gn : Int).toNat - bound s bn gn = _
    simp only [Int.toNat_natCast]
    rw [cell_setCell hbl hgl, if_pos ⟨rfl, rfl⟩]
    omega
  · unfold free at h5 ⊢
    simp only [Int.toNat_natCast] at h5 ⊢
    have : sumTo (fun g => (cell (setCell s.on bn gn (cell s.on bn gn + n)) bn g + coming s bn g) * intAt p.sizes g) p.sizes.length = sumTo (fun g => (cell s.on bn g + coming s bn g) * intAt p.sizes g) p.sizes.length + n * intAt p.sizes gn := by
      refine sumTo_one (i := gn) hgn (fun k hk hne => ?_) ?_
      · show (cell (setCell s.on bn gn (cell s.on bn gn + n)) bn k + coming s bn k) * intAt p.sizes k = _
        rw [cell_setCell hbl hgl, if_neg (by omega)]
      · show (cell (setCell s.on bn gn (cell s.on bn gn + n)) bn gn + coming s bn gn) * intAt p.sizes gn = _
        rw [cell_setCell hbl hgl, if_pos ⟨rfl, rfl⟩, ← Int.add_mul]
        congr 1
        omega
    have e : ∀ g : Nat, coming { s with on := setCell s.on bn gn (cell s.on bn gn + n), inn := s.inn.set gn (intAt s.inn gn + n) } bn g = coming s bn g := fun _ => rfl
    simp only [e]
    rw [this]
    omega

-- what is entered
theorem enter_right {p : Plan} {s : State} {l : List Line} (h : (enter p s l).2 = 0) :
    checkState p s = 0 ∧ s.orders.length < 4 ∧ (1 ≤ l.length ∧ l.length ≤ 3) ∧ (∀ x ∈ l, (isGood p x.good = true ∧ 1 ≤ x.want ∧ x.want ≤ 200) ∧ x.got = 0 ∧ x.back = 0) ∧ (enter p s l).1 = { s with orders := s.orders ++ [⟨0, l⟩] } := by
  unfold enter at h ⊢
  by_cases h1 : checkState p s = 0
  · rw [if_neg (fun hn => hn h1)] at h ⊢
    split at h
    · simp at h
    · rename_i h2
      rw [if_neg h2]
      split at h
      · simp at h
      · rename_i h3
        rw [if_neg h3]
        split at h
        · simp at h
        · rename_i h4
          rw [if_neg h4]
          have h2' : s.orders.length < 4 ∧ within l.length 1 3 = true := by
            constructor
            · exact Nat.lt_of_not_le fun hh => h2 (.inl hh)
            · cases hq : within (l.length : Int) 1 3
              · exact absurd (.inr (by rw [hq]; rfl)) h2
              · rfl
          have h3' : (l.all fun x => isGood p x.good && within x.want 1 200) = true := by simpa using h3
          have h4' : (l.all fun x => decide (x.got = 0) && decide (x.back = 0)) = true := by simpa using h4
          refine ⟨h1, h2'.1, by have := within_iff.1 h2'.2; omega, fun x hx => ⟨?_, ?_⟩, rfl⟩
          · have := List.all_eq_true.1 h3' x hx
            rw [Bool.and_eq_true, within_iff] at this
            exact this
          · have := List.all_eq_true.1 h4' x hx
            rw [Bool.and_eq_true, decide_eq_true_eq, decide_eq_true_eq] at this
            exact this
  · rw [if_pos h1] at h
    exact absurd h h1
theorem kept_none {p : Plan} {s : State} (hs : Sane p s) {o : Nat} (ho : s.orders.length ≤ o) (k : Int) : kept s.holds o k = 0 := by
  unfold kept
  rw [filter_none]
  · rfl
  · intro x hx
    obtain ⟨i, hi, rfl⟩ := List.getElem_of_mem hx
    have := (hs.holdAt hi).1
    rw [hold_get hi] at this
    unfold sameLine
    rw [decide_eq_false (by omega), Bool.false_and]
theorem enter_true {p : Plan} {s : State} {l : List Line} (h : (enter p s l).2 = 0) : checkState p (enter p s l).1 = 0 ∧ (enter p s l).1.orders.length = s.orders.length + 1 ∧ (enter p s l).1.holds = s.holds := by
  obtain ⟨h1, h2, h3, h4, h5⟩ := enter_right h
  rw [h5]
  refine ⟨?_, by simp, rfl⟩
  obtain ⟨hr, hgot⟩ := check_iff.1 h1
  have hs := hr.sane
  have hor : ∀ o, o < s.orders.length → ({ s with orders := s.orders ++ [⟨0, l⟩] } : State).order o = s.order o := fun o ho => by
    unfold State.order orderAt
    simp [ho, List.getElem?_append_left]
  have hnew : ({ s with orders := s.orders ++ [⟨0, l⟩] } : State).order s.orders.length = ⟨0, l⟩ := by
    unfold State.order orderAt
    simp
  have hln : ∀ o k, o < s.orders.length → ({ s with orders := s.orders ++ [⟨0, l⟩] } : State).line o k = s.line o k := fun o k ho => by
    unfold State.line
    rw [hor o ho]
  have hcase : ∀ o, o < ({ s with orders := s.orders ++ [⟨0, l⟩] } : State).orders.length → o < s.orders.length ∨ o = s.orders.length := fun o ho => by
    have : o < s.orders.length + 1 := by simpa using ho
    omega
  have hbound : ∀ b g : Int, bound { s with orders := s.orders ++ [⟨0, l⟩] } b g = bound s b g := fun b g => by
    unfold bound
    have : heldIn { s with orders := s.orders ++ [⟨0, l⟩] } b g = heldIn s b g := heldIn_mem (s := s) (t := { s with orders := s.orders ++ [⟨0, l⟩] }) rfl (fun x hx => by
      obtain ⟨i, hi, rfl⟩ := List.getElem_of_mem hx
      have := (hs.holdAt hi).1
      rw [hold_get hi] at this
      rw [hln _ _ (by omega)]) b g
    rw [this]
  have hl : ∀ k, k < l.length → lineOk p (lineAt l k) = true ∧ (lineAt l k).got = 0 ∧ (lineAt l k).back = 0 := fun k hk => by
    have := h4 (lineAt l k) (by rw [lineAt_eq hk]; exact List.getElem_mem hk)
    refine ⟨lineOk_iff.2 ⟨isGood_iff.1 this.1.1, this.1.2, by omega, by omega⟩, this.2⟩
  refine check_iff.2 ⟨Right.of (Sane.of hs.shelf (by simp; omega) hs.moves8 (fun o ho => ?_) (fun o k ho hk => ?_) hs.holds (fun x hx => ?_) (fun x hx => List.all_eq_true.1 (formed_iff.1 hs.form).2.2.2.1 x hx)
    (formed_iff.1 hs.form).2.2.2.2.1 (formed_iff.1 hs.form).2.2.2.2.2.1 (formed_iff.1 hs.form).2.2.2.2.2.2) (fun g hg => hr.sum hg) (fun b g hb hg => by rw [hbound]; exact hr.bnd hb hg) (fun o k ho hk => ?_), fun o ho => ?_⟩
  · rcases hcase o ho with ho | rfl
    · rw [hor o ho]
      exact ⟨hs.lines3 ho, hs.kind ho⟩
    · rw [hnew]
      exact ⟨h3, by simp only; omega⟩
  · rcases hcase o ho with ho | rfl
    · rw [hor o ho] at hk
      rw [hln o k ho]
      exact lineOk_iff.2 (hs.line ho hk)
    · rw [hnew] at hk
      unfold State.line
      rw [hnew]
      exact (hl k hk).1
  · have hq := holdIn_iff.1 (List.all_eq_true.1 (formed_iff.1 hs.form).2.2.1 x hx)
    obtain ⟨i, hi, rfl⟩ := List.getElem_of_mem hx
    have h0 := (hs.holdAt hi).1
    rw [hold_get hi] at h0
    change s.holds[i].order < _ ∧ _ at hq
    refine holdIn_iff.2 ⟨?_, ?_, hq.2.2⟩
    · have := hq.1
      change s.holds[i].order < _
      simp only [List.length_append, List.length_cons, List.length_nil]
      omega
    · rw [hor _ (by change s.holds[i].order.toNat < _; omega)]
      exact hq.2.1
  · rcases hcase o ho with ho | rfl
    · rw [hor o ho] at hk
      rw [lineSummed_iff, hln o k ho, hor o ho]
      exact hr.lineSum ho hk
    · rw [hnew] at hk
      rw [lineSummed_iff]
      unfold State.line
      rw [hnew]
      have e : kept ({ s with orders := s.orders ++ [⟨0, l⟩] } : State).holds s.orders.length k = 0 := kept_none hs (Nat.le_refl _) k
      rw [e]
      obtain ⟨_, h6, h7⟩ := hl k hk
      simp only [ite_true]
      omega
  · rcases hcase o ho with ho | rfl
    · rw [hor o ho]
      exact hgot o ho
    · rw [hnew]
      simp
end Wh
namespace Wh
open Go Go.RowKit Go.Shelf Go.Proofs
attribute [local go_sem] run_indexAt_letter

set_option maxHeartbeats 400000 in
theorem cmpNaN (n : Int) (w : World) : Calls Try.prog 127 #[.int .i64 n] w fun e w' => e = .returned (.bool false) ∧ w = w' := by
  go_enter Try.func127, Try.ntmps127
  go_wp2
  go_ret
  exact ⟨by simp, rfl⟩
set_option maxHeartbeats 400000 in
theorem cmpCompare (a b : Int) (w : World) : Calls Try.prog 122 #[.int .i64 a, .int .i64 b] w fun e w' => e = .returned (.int .i64 (cmp3 a b)) ∧ w = w' := by
  rcases cmp3_cases a b with ⟨h1, h2⟩ | ⟨h1, h2⟩ | ⟨h1, h2⟩
  · go_enter Try.func122, Try.ntmps122
    go_wp2_with (go_at_call 127; refine (cmpNaN _ _).mono ?_; rintro e w' ⟨rfl, rfl⟩)
    go_ret
    exact ⟨ret_int h2.symm, rfl⟩
  · go_enter Try.func122, Try.ntmps122
    go_wp2_with (go_at_call 127; refine (cmpNaN _ _).mono ?_; rintro e w' ⟨rfl, rfl⟩)
    go_ret
    exact ⟨ret_int h2.symm, rfl⟩
  · subst h1
    go_enter Try.func122, Try.ntmps122
    go_wp2_with (go_at_call 127; refine (cmpNaN _ _).mono ?_; rintro e w' ⟨rfl, rfl⟩)
    go_ret
    exact ⟨ret_int h2.symm, rfl⟩

def or3 (a b c : Int) : Int := if a ≠ 0 then a else if b ≠ 0 then b else c
set_option maxHeartbeats 1000000 in
theorem cmpOr (a b c : Int) (w : World) (bl off k : Nat) (h0 : w.cell? ⟨bl, off, none⟩ = some (.int .i64 a)) (h1 : w.cell? ⟨bl, off + 1, none⟩ = some (.int .i64 b)) (h2 : w.cell? ⟨bl, off + 2, none⟩ = some (.int .i64 c)) :
    Calls Try.prog 121 #[.slice (some ⟨bl, off, none⟩) 3 k] w fun e w' => e = .returned (.int .i64 (or3 a b c)) ∧ w = w' := by
  by_cases ha : a = 0
  · subst ha
    by_cases hb : b = 0
    · subst hb
      have hfin : or3 0 0 c = c := by simp [or3]
      by_cases hc : c = 0
      · subst hc
        go_enter Try.func121, Try.ntmps121
        go_wp2_with fail
        refine wp_loop_rounds 4 ?_
        rw [rounds_succ]
        go_wp2_with fail
        rw [rounds_succ]
        go_wp2_with fail
        rw [rounds_succ]
        go_wp2_with fail
        rw [rounds_succ]
        go_wp2_with fail
        go_ret
        exact ⟨ret_int hfin.symm, rfl⟩
      · have hc' : (c != 0) = true := by simpa using hc
        go_enter Try.func121, Try.ntmps121
        go_wp2_with fail
        refine wp_loop_rounds 4 ?_
        rw [rounds_succ]
        go_wp2_with fail
        rw [rounds_succ]
        go_wp2_with fail
        rw [rounds_succ]
        go_wp2_with fail
        go_ret
        exact ⟨ret_int hfin.symm, rfl⟩
    · have hfin : or3 0 b c = b := by simp [or3, hb]
      have hb' : (b != 0) = true := by simpa using hb
      go_enter Try.func121, Try.ntmps121
      go_wp2_with fail
      refine wp_loop_rounds 4 ?_
      rw [rounds_succ]
      go_wp2_with fail
      rw [rounds_succ]
      go_wp2_with fail
      go_ret
      exact ⟨ret_int hfin.symm, rfl⟩
  · have hfin : or3 a b c = a := by simp [or3, ha]
    have ha' : (a != 0) = true := by simpa using ha
    go_enter Try.func121, Try.ntmps121
    go_wp2_with fail
    refine wp_loop_rounds 4 ?_
    rw [rounds_succ]
    go_wp2_with fail
    go_ret
    exact ⟨ret_int hfin.symm, rfl⟩

set_option maxHeartbeats 400000 in
theorem hdOrder (a b : Hold) (w : World) : Calls Try.prog 111 #[vHold a, vHold b] w fun e w' => e = .returned (.int .i64 (ord a b)) ∧ Below w.heap.size w w' := by
  unfold vHold
  go_enter Try.func111, Try.ntmps111
  go_wp2_with fail
  go_region_held3 (fun w' => w'.cell? ⟨w.heap.size, 0, none⟩ = some (.int .i64 a.order) ∧ w'.cell? ⟨w.heap.size, 1, none⟩ = some (.int .i64 a.line) ∧ w'.cell? ⟨w.heap.size, 2, none⟩ = some (.int .i64 a.bin) ∧
    w'.cell? ⟨w.heap.size + 1, 0, none⟩ = some (.int .i64 b.order) ∧ w'.cell? ⟨w.heap.size + 1, 1, none⟩ = some (.int .i64 b.line) ∧ w'.cell? ⟨w.heap.size + 1, 2, none⟩ = some (.int .i64 b.bin)) (first | go_keep)
    (first
    | (go_at_call 122; refine (cmpCompare _ _ _).mono ?_; rintro e w' ⟨rfl, rfl⟩)
    | (go_at_call 121; refine (cmpOr (cmp3 a.order b.order) (cmp3 a.line b.line) (cmp3 a.bin b.bin) _ _ _ _ (by go_simp) (by go_simp) (by go_simp)).mono ?_; rintro e w' ⟨rfl, rfl⟩))
  go_wp2_with fail
  go_ret
  exact ⟨rfl, ((((Below.refl _ _).alloc (Nat.le_refl _) _).alloc (by simp) _).alloc (by simp; omega) _).drew⟩

set_option maxHeartbeats 1000000 in
theorem rPlace (h : Hold) (w : World) (hk : keyOk h.order h.line h.bin) : Calls Try.prog 113 #[vHold h] w fun e w' => e = .returned (.int .i64 (place h)) ∧ Below w.heap.size w w' := by
  obtain ⟨⟨a1, a2⟩, ⟨b1, b2⟩, ⟨c1, c2⟩⟩ := hk
  unfold vHold
  go_enter Try.func113, Try.ntmps113
  go_wp2
  go_ret
  exact ⟨rfl, (Below.refl _ _).alloc (Nat.le_refl _) _⟩

theorem fine_parts (h : Hold) : (within h.order 0 3 = false ∧ holdFine h = false) ∨ (within h.order 0 3 = true ∧ within h.line 0 2 = false ∧ holdFine h = false) ∨
    (within h.order 0 3 = true ∧ within h.line 0 2 = true ∧ within h.bin 0 5 = false ∧ holdFine h = false) ∨ (within h.order 0 3 = true ∧ within h.line 0 2 = true ∧ within h.bin 0 5 = true ∧ holdFine h = within h.n 1 200) := by
  unfold holdFine
  cases within h.order 0 3 <;> cases within h.line 0 2 <;> cases within h.bin 0 5 <;> simp

set_option maxHeartbeats 1000000 in
theorem rHoldFine (h : Hold) (w : World) : Calls Try.prog 112 #[vHold h] w fun e w' => e = .returned (.bool (holdFine h)) ∧ Below w.heap.size w w' := by
  unfold vHold
  rcases fine_parts h with ⟨g1, hf⟩ | ⟨g1, g2, hf⟩ | ⟨g1, g2, g3, hf⟩ | ⟨g1, g2, g3, hf⟩
  all_goals
    go_enter Try.func112, Try.ntmps112
    go_wp2_with (go_at_call 45; refine (rWithin _ _ _ _).mono ?_; rintro e w' ⟨rfl, rfl⟩)
    go_ret
    exact ⟨ret_bool hf.symm, (Below.refl _ _).alloc (Nat.le_refl _) _⟩
end Wh
