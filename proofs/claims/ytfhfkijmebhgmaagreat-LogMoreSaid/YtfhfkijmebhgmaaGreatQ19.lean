/- Texts of the claim, joined: PlainK, WaveP. -/
import Derived.Test.YtfhfkijmebhgmaaGreatQ15
import Derived.Test.YtfhfkijmebhgmaaGreatQ10
namespace Wh

/-- t is what comes of s by holding, once each, for the lines of S. -/
structure Taken (p : Plan) (S : Nat → Nat → Prop) (s t : State) : Prop where
  right : Right p t
  on : t.on = s.on
  moves : t.moves = s.moves
  inn : t.inn = s.inn
  out : t.out = s.out
  fixed : t.fixed = s.fixed
  orders : t.orders.length = s.orders.length
  kind : ∀ o, (t.order o).kind = (s.order o).kind
  lines : ∀ o, (t.order o).lines.length = (s.order o).lines.length
  line : ∀ o k, (t.line o k).good = (s.line o k).good ∧ (t.line o k).want = (s.line o k).want ∧ (t.line o k).got = (s.line o k).got
  less : ∀ b g : Int, avail t b g ≤ avail s b g
  back : ∀ o k, ¬ S o k → (t.line o k).back = (s.line o k).back
  kept : ∀ o k : Nat, ¬ S o k → Wh.kept t.holds o k = Wh.kept s.holds o k
  done : ∀ o k, S o k → o < s.orders.length → k < (s.order o).lines.length → (s.order o).kind = 1 → 0 < (t.line o k).back → ∀ b, b < p.bins.length → avail t b (s.line o k).good = 0
  none : ∀ o k, S o k → o < s.orders.length → k < (s.order o).lines.length → (∀ b : Nat, b < p.bins.length → avail s b (s.line o k).good = 0) → Wh.kept t.holds o k = Wh.kept s.holds o k
theorem line_avail {p : Plan} {s : State} (h : Right p s) {o k b : Nat} (ho : o < s.orders.length) (hk : k < (s.order o).lines.length) (hb : b < p.bins.length) : 0 ≤ avail s b (s.line o k).good := by
  have h1 := (h.sane.line ho hk).1
  obtain ⟨g, hg⟩ : ∃ g : Nat, (s.line o k).good = g := ⟨(s.line o k).good.toNat, by omega⟩
  rw [hg] at h1 ⊢
  exact (h.avail_range hb (by omega)).1
namespace Taken
variable {p : Plan} {S S' : Nat → Nat → Prop} {s t u : State}
theorem same (h : Right p s) (hS : ∀ o k, S o k → o < s.orders.length → k < (s.order o).lines.length → (s.order o).kind ≠ 1) : Taken p S s s :=
  ⟨h, rfl, rfl, rfl, rfl, rfl, rfl, fun _ => rfl, fun _ => rfl, fun _ _ => ⟨rfl, rfl, rfl⟩, fun _ _ => Int.le_refl _, fun _ _ _ => rfl, fun _ _ _ => rfl, fun o k hs ho hk hkd => absurd hkd (hS o k hs ho hk), fun _ _ _ _ _ _ => rfl⟩
theorem mono (h : Taken p S s t) (h1 : ∀ o k, S o k → S' o k) (h2 : ∀ o k, o < s.orders.length → k < (s.order o).lines.length → S' o k → S o k) : Taken p S' s t :=
  { h with back := fun o k hn => h.back o k fun hs => hn (h1 o k hs), kept := fun o k hn => h.kept o k fun hs => hn (h1 o k hs), done := fun o k hs ho hk => h.done o k (h2 o k ho hk hs) ho hk, none := fun o k hs ho hk => h.none o k (h2 o k ho hk hs) ho hk }
theorem trans (h : Taken p S s t) (h' : Taken p S' t u) (hd : ∀ o k, S o k → S' o k → False) : Taken p (fun o k => S o k ∨ S' o k) s u := by
  refine ⟨h'.right, h'.on.trans h.on, h'.moves.trans h.moves, h'.inn.trans h.inn, h'.out.trans h.out, h'.fixed.trans h.fixed, h'.orders.trans h.orders, fun o => (h'.kind o).trans (h.kind o), fun o => (h'.lines o).trans (h.lines o), fun o k => ?_,
    fun b g => Int.le_trans (h'.less b g) (h.less b g), fun o k hn => ?_, fun o k hn => ?_, fun o k hs ho hk hkd hb b hbn => ?_, fun o k hs ho hk hz => ?_⟩
  · obtain ⟨a1, a2, a3⟩ := h.line o k
    obtain ⟨b1, b2, b3⟩ := h'.line o k
    exact ⟨b1.trans a1, b2.trans a2, b3.trans a3⟩
  · exact (h'.back o k fun hs => hn (.inr hs)).trans (h.back o k fun hs => hn (.inl hs))
  · exact (h'.kept o k fun hs => hn (.inr hs)).trans (h.kept o k fun hs => hn (.inl hs))
  · have ho' : o < t.orders.length := by rw [h.orders]; exact ho
    have hk' : k < (t.order o).lines.length := by rw [h.lines]; exact hk
    rcases hs with hs | hs
    · rw [h'.back o k (hd o k hs)] at hb
      have h1 := h.done o k hs ho hk hkd hb b hbn
      have h2 := h'.less b (s.line o k).good
      have h3 := line_avail h'.right (o := o) (k := k) (b := b) (by rw [h'.orders]; exact ho') (by rw [h'.lines]; exact hk') hbn
      rw [(h'.line o k).1, (h.line o k).1] at h3
      omega
    · have := h'.done o k hs ho' hk' (by rw [h.kind]; exact hkd) hb b hbn
      rwa [(h.line o k).1] at this
  · have ho' : o < t.orders.length := by rw [h.orders]; exact ho
    have hk' : k < (t.order o).lines.length := by rw [h.lines]; exact hk
    rcases hs with hs | hs
    · exact (h'.kept o k (hd o k hs)).trans (h.none o k hs ho hk hz)
    · rw [h'.none o k hs ho' hk' (fun b hbn => by
        have h1 := hz b hbn
        have h2 := h.less b (s.line o k).good
        have h3 := line_avail h.right ho' hk' hbn
        rw [(h.line o k).1] at h3 ⊢
        omega)]
      exact h.kept o k fun hs' => hd o k hs' hs
end Taken

theorem takeGo_nothing {o k : Nat} {but : Int} : ∀ {bs : List Nat} {s : State} {n : Int}, (∀ b ∈ bs, avail s b (s.line o k).good = 0) → takeGo o k but bs s n = (s, n)
  | [], _, _, _ => rfl
  | b :: r, s, n, h => by
    have := h b (List.mem_cons_self ..)
    rw [takeGo_skip (.inr (by omega)), takeGo_nothing fun x hx => h x (List.mem_cons_of_mem _ hx)]
theorem sane_back {p : Plan} {s : State} (h : Right p s) {o k : Nat} (ho : o < s.orders.length) (hk : k < (s.order o).lines.length) (hkd : (s.order o).kind = 1) : May s o k (s.line o k).back :=
  ⟨ho, hk, hkd, (h.sane.line ho hk).2.2.2.1, Int.le_refl _⟩
theorem takeAll_taken {p : Plan} {s : State} {o k : Nat} (h : Right p s) (ho : o < s.orders.length) (hk : k < (s.order o).lines.length) (hkd : (s.order o).kind = 1) : Taken p (fun o' k' => o' = o ∧ k' = k) s (takeAll p s o k) := by
  have hm := sane_back h ho hk hkd
  obtain ⟨h1, h2, h3⟩ := takeS_held (but := -1) h hm
  change Held p s (takeAll p s o k) o k _ at h1
  have hbk : ((takeAll p s o k).line o k).back = (takeS p s o k (s.line o k).back (-1)).2 := by
    rw [h1.back, if_pos ⟨rfl, rfl⟩]
    omega
  refine ⟨h1.right, h1.on, h1.moves, h1.inn, h1.out, h1.fixed, h1.orders, h1.kind, h1.lines, h1.line, h1.avail_le, fun o' k' hn => ?_, fun o' k' hn => ?_, fun o' k' hs ho' hk' hkd' hb b hbn => ?_, fun o' k' hs ho' hk' hz => ?_⟩
  · rw [h1.back, if_neg hn, Int.sub_zero]
  · rw [h1.kept, if_neg (by omega), Int.add_zero]
  · obtain ⟨rfl, rfl⟩ := hs
    exact takeS_left (but := -1) h hm (by rw [← hbk]; exact hb) hbn (by omega)
  · obtain ⟨rfl, rfl⟩ := hs
    have : takeAll p s o' k' = s := by
      unfold takeAll takeS
      rw [takeGo_nothing (fun b hb => hz b (way_bins p b hb))]
    rw [this]
theorem takeLines_taken {p : Plan} {s : State} {o : Nat} (h : Right p s) (ho : o < s.orders.length) (hkd : (s.order o).kind = 1) : ∀ n, n ≤ (s.order o).lines.length → Taken p (fun o' k' => o' = o ∧ k' < n) s (takeLines p o n s)
  | 0, _ => (Taken.same (S := fun o' k' => o' = o ∧ k' < 0) h fun _ _ hs => by omega)
  | n + 1, hn => by
    have h1 := takeLines_taken h ho hkd n (by omega)
    have h2 := takeAll_taken h1.right (o := o) (k := n) (by rw [h1.orders]; exact ho) (by rw [h1.lines]; omega) (by rw [h1.kind]; exact hkd)
    exact (h1.trans h2 (fun o' k' hs hs' => by omega)).mono (fun o' k' hs => by omega) (fun o' k' _ _ hs => by omega)
theorem takeOrder_taken {p : Plan} {s : State} {o : Nat} (h : Right p s) (ho : o < s.orders.length) : Taken p (fun o' _ => o' = o) s (takeOrder p s o) := by
  unfold takeOrder
  split
  · rename_i hkd
    exact (takeLines_taken h ho hkd _ (Nat.le_refl _)).mono (fun o' k' hs => hs.1) (fun o' k' _ hk hs => ⟨hs, by rw [hs] at hk; exact hk⟩)
  · rename_i hkd
    exact Taken.same h fun o' k' hs _ _ => by rw [hs]; exact hkd
theorem takeOrders_taken {p : Plan} {s : State} (h : Right p s) : ∀ n, n ≤ s.orders.length → Taken p (fun o _ => o < n) s (takeOrders p n s)
  | 0, _ => (Taken.same (S := fun o _ => o < 0) h fun _ _ hs => by omega)
  | n + 1, hn => by
    have h1 := takeOrders_taken h n (by omega)
    have h2 := takeOrder_taken h1.right (o := n) (by rw [h1.orders]; omega)
    exact (h1.trans h2 (fun o' k' hs hs' => by omega)).mono (fun o' k' hs => by omega) (fun o' k' _ _ hs => by omega)

-- orders that are freed
def freedS (s : State) : State := { s with orders := s.orders.map freed }
theorem freed_order (s : State) (o : Nat) (ho : o < s.orders.length) : (freedS s).order o = freed (s.order o) := by
  unfold State.order orderAt freedS
  simp [ho]
theorem freed_line (s : State) {o k : Nat} (ho : o < s.orders.length) (hk : k < (s.order o).lines.length) : (freedS s).line o k = if (s.order o).kind = 0 then { s.line o k with back := (s.line o k).want } else s.line o k := by
  unfold State.line
  rw [freed_order s o ho]
  unfold freed
  split
  · rw [lineAt_eq (by simpa using hk), lineAt_eq hk]
    simp
  · rfl
theorem freed_lines (s : State) {o : Nat} (ho : o < s.orders.length) : ((freedS s).order o).lines.length = (s.order o).lines.length := by
  rw [freed_order s o ho]
  unfold freed
  split
  · simp
  · rfl
theorem freed_kind (s : State) {o : Nat} (ho : o < s.orders.length) : ((freedS s).order o).kind = if (s.order o).kind = 0 then 1 else (s.order o).kind := by
  rw [freed_order s o ho]
  unfold freed
  split <;> rfl
theorem freed_len (s : State) : (freedS s).orders.length = s.orders.length := by simp [freedS]
theorem freed_right {p : Plan} {s : State} (h : checkState p s = 0) : checkState p (freedS s) = 0 := by
  obtain ⟨hr, hgot⟩ := check_iff.1 h
  have hs := hr.sane
  have hbound : ∀ b g : Int, bound (freedS s) b g = bound s b g := fun b g => by
    unfold bound
    have : heldIn (freedS s) b g = heldIn s b g := heldIn_mem (s := s) (t := freedS s) rfl (fun x hx => by
      obtain ⟨i, hi, rfl⟩ := List.getElem_of_mem hx
      have := hs.holdAt hi
      rw [hold_get hi] at this
      rw [freed_line s (by omega) (by omega)]
      split <;> rfl) b g
    rw [this]
    rfl
  refine check_iff.2 ⟨Right.of (Sane.of hs.shelf (by rw [freed_len]; exact hs.orders4) hs.moves8 (fun o ho => ?_) (fun o k ho hk => ?_) hs.holds (fun x hx => ?_) (fun x hx => List.all_eq_true.1 (formed_iff.1 hs.form).2.2.2.1 x hx)
    (formed_iff.1 hs.form).2.2.2.2.1 (formed_iff.1 hs.form).2.2.2.2.2.1 (formed_iff.1 hs.form).2.2.2.2.2.2) (fun g hg => hr.sum hg) (fun b g hb hg => by rw [hbound]; exact hr.bnd hb hg) (fun o k ho hk => ?_), fun o ho hh => ?_⟩
  · rw [freed_len] at ho
    rw [freed_lines s ho, freed_kind s ho]
    refine ⟨hs.lines3 ho, ?_⟩
    have := hs.kind ho
    split <;> omega
  · rw [freed_len] at ho
    rw [freed_lines s ho] at hk
    rw [freed_line s ho hk]
    have h1 := hs.line ho hk
    split
    · exact lineOk_iff.2 ⟨h1.1, h1.2.1, h1.2.2.1, by simp only; omega⟩
    · exact lineOk_iff.2 h1
  · have h1 := holdIn_iff.1 (List.all_eq_true.1 (formed_iff.1 hs.form).2.2.1 x hx)
    have hx' : x ∈ s.holds := hx
    obtain ⟨i, hi, rfl⟩ := List.getElem_of_mem hx'
    have := (hs.holdAt hi).1
    rw [hold_get hi] at this
    refine holdIn_iff.2 ⟨by rw [freed_len]; exact h1.1, ?_, h1.2.2⟩
    rw [freed_lines s (by omega)]
    exact h1.2.1
  · rw [freed_len] at ho
    rw [freed_lines s ho] at hk
    have h1 := hr.lineSum ho hk
    have h2 := hs.line ho hk
    have h3 := (kept_range hs.holds o k).1
    refine lineSummed_iff.2 ?_
    rw [freed_line s ho hk, freed_kind s ho]
    by_cases hz : (s.order o).kind = 0
    · rw [if_pos hz, if_pos hz, if_neg (by omega)]
      rw [if_pos hz] at h1
      have e : kept (freedS s).holds o k = kept s.holds o k := rfl
      rw [e]
      simp only
      omega
    · rw [if_neg hz, if_neg hz]
      exact h1
  · rw [freed_len] at ho
    rw [freed_kind s ho, allGot_iff, freed_lines s ho] at hh
    obtain ⟨h1, h2⟩ := hh
    by_cases hz : (s.order o).kind = 0
    · have hl := hs.lines3 ho
      have h3 := h2 0 (by omega)
      have h4 := freed_line s (o := o) (k := 0) ho (by omega)
      rw [if_pos hz] at h4
      have h5 : lineAt ((freedS s).order o).lines 0 = (freedS s).line o 0 := rfl
      rw [h5, h4] at h3
      have h6 := (hr.lineSum (o := o) (k := 0) ho (by omega)).1
      rw [if_pos hz] at h6
      have h7 := hs.line (o := o) (k := 0) ho (by omega)
      have h8 := (kept_range hs.holds o (0 : Nat)).1
      simp only at h3
      omega
    · rw [if_neg hz] at h1
      refine hgot o ho ⟨h1, allGot_iff.2 fun k hk => ?_⟩
      have h3 := h2 k hk
      have h4 := freed_line s (o := o) (k := k) ho hk
      rw [if_neg hz] at h4
      have h5 : lineAt ((freedS s).order o).lines k = (freedS s).line o k := rfl
      rw [h5, h4] at h3
      exact h3

theorem release_taken {p : Plan} {s : State} (h : checkState p s = 0) : Taken p (fun o _ => o < s.orders.length) (freedS s) (releaseS p s) :=
  takeOrders_taken (right_of_check (freed_right h)) _ (by rw [freed_len]; exact Nat.le_refl _)
theorem taken_check {p : Plan} {S : Nat → Nat → Prop} {s t : State} (h : Taken p S s t) (hs : checkState p s = 0) : checkState p t = 0 := by
  refine check_iff.2 ⟨h.right, fun o ho => ?_⟩
  rw [h.orders] at ho
  have := (check_iff.1 hs).2 o ho
  rw [h.kind]
  rintro ⟨h1, h2⟩
  refine this ⟨h1, allGot_iff.2 fun k hk => ?_⟩
  have h3 := allGot_iff.1 h2 k (by rw [h.lines]; exact hk)
  have h4 := h.line o k
  unfold State.line at h4
  rw [h4.2.1, h4.2.2] at h3
  exact h3
theorem release_check {p : Plan} {s : State} (h : checkState p s = 0) : checkState p (releaseS p s) = 0 := taken_check (release_taken h) (freed_right h)
theorem release_len {p : Plan} {s : State} (h : checkState p s = 0) : (releaseS p s).orders.length = s.orders.length := by rw [(release_taken h).orders, freed_len]
-- released once more
-- who was entered first has first
theorem release_lines {p : Plan} {s : State} (h : checkState p s = 0) {o : Nat} (ho : o < s.orders.length) : ((releaseS p s).order o).lines.length = (s.order o).lines.length := by rw [(release_taken h).lines, freed_lines s ho]

-- who is cancelled
theorem holdsOk_filter {l : List Hold} (P : Hold → Bool) (h : holdsOk l = true) : holdsOk (l.filter P) = true := by
  obtain ⟨h1, h2⟩ := holdsOk_iff.1 h
  exact holdsOk_iff.2 ⟨fun x hx => h1 x (List.mem_filter.1 hx).1, h2.sublist List.filter_sublist⟩
theorem kept_filter (l : List Hold) (o : Nat) (o' k' : Int) : kept (l.filter fun h => decide (h.order ≠ o)) o' k' = if o' = (o : Int) then 0 else kept l o' k' := by
  unfold kept
  rw [List.filter_filter]
  split
  · rename_i e
    rw [filter_none]
    · rfl
    · intro x _
      unfold sameLine
      subst e
      by_cases hx : x.order = (o : Int) <;> simp [hx]
  · rename_i e
    congr 2
    apply List.filter_congr
    intro x _
    unfold sameLine
    by_cases hx : x.order = o'
    · have : x.order ≠ (o : Int) := by rw [hx]; exact e
      simp [hx, e]
    · simp [hx]
theorem sum_filter {f : Hold → Int} (P : Hold → Bool) : ∀ {l : List Hold}, (∀ x ∈ l, 0 ≤ f x) → 0 ≤ ((l.filter P).map f).sum ∧ ((l.filter P).map f).sum ≤ (l.map f).sum
  | [], _ => by simp
  | x :: l, h => by
    have h1 := sum_filter P (l := l) fun y hy => h y (List.mem_cons_of_mem _ hy)
    have h2 := h x (List.mem_cons_self ..)
    rw [List.filter_cons]
    split
    · rw [List.map_cons, List.sum_cons, List.map_cons, List.sum_cons]
      omega
    · rw [List.map_cons, List.sum_cons]
      omega
theorem cancel_order {s : State} {o : Nat} (ho : o < s.orders.length) (o' : Nat) : (cancelS s o).order o' = if o' = o then ⟨2, (s.order o).lines.map fun x => { x with back := x.want - x.got }⟩ else s.order o' := orderAt_set ho _ _
theorem cancel_len (s : State) (o : Nat) : (cancelS s o).orders.length = s.orders.length := by simp [cancelS]
theorem cancel_lines {s : State} {o : Nat} (ho : o < s.orders.length) (o' : Nat) : ((cancelS s o).order o').lines.length = (s.order o').lines.length := by
  rw [cancel_order ho]
  split
  · rename_i e
    subst e
    simp
  · rfl
theorem cancel_line {s : State} {o : Nat} (ho : o < s.orders.length) {o' k' : Nat} (hk : k' < (s.order o').lines.length) : (cancelS s o).line o' k' = if o' = o then { s.line o' k' with back := (s.line o' k').want - (s.line o' k').got } else s.line o' k' := by
  unfold State.line
  rw [cancel_order ho]
  split
  · rename_i e
    subst e
    rw [lineAt_eq (by simpa using hk), lineAt_eq hk]
    simp
  · rfl
theorem cancel_check {p : Plan} {s : State} {o : Nat} (h : checkState p s = 0) (ho : o < s.orders.length) : checkState p (cancelS s o) = 0 := by
  obtain ⟨hr, hgot⟩ := check_iff.1 h
  have hs := hr.sane
  have hbound : ∀ b g : Int, bound (cancelS s o) b g ≤ bound s b g := fun b g => by
    have e : heldIn (cancelS s o) b g = heldIn { s with holds := s.holds.filter fun h => decide (h.order ≠ o) } b g := heldIn_mem (s := { s with holds := s.holds.filter fun h => decide (h.order ≠ o) }) (t := cancelS s o) rfl (fun x hx => by
      have hx' := (List.mem_filter.1 hx).1
      obtain ⟨i, hi, rfl⟩ := List.getElem_of_mem hx'
      have := hs.holdAt hi
      rw [hold_get hi] at this
      rw [cancel_line ho (by omega)]
      split <;> rfl) b g
    have e2 : heldIn { s with holds := s.holds.filter fun h => decide (h.order ≠ o) } b g ≤ heldIn s b g := (sum_filter (f := heldN s b g) _ fun x hx => by
      have := (fine_iff.1 ((holdsOk_iff.1 hs.holds).1 x hx)).2
      unfold heldN
      split <;> omega).2
    unfold bound
    rw [e]
    have : (cancelS s o).moves = s.moves := rfl
    rw [this]
    omega
  refine check_iff.2 ⟨Right.of (Sane.of hs.shelf (by rw [cancel_len]; exact hs.orders4) hs.moves8 (fun o' ho' => ?_) (fun o' k ho' hk => ?_) (holdsOk_filter _ hs.holds) (fun x hx => ?_) (fun x hx => List.all_eq_true.1 (formed_iff.1 hs.form).2.2.2.1 x hx)
    (formed_iff.1 hs.form).2.2.2.2.1 (formed_iff.1 hs.form).2.2.2.2.2.1 (formed_iff.1 hs.form).2.2.2.2.2.2) (fun g hg => hr.sum hg) (fun b g hb hg => Int.le_trans (hbound b g) (hr.bnd hb hg)) (fun o' k ho' hk => ?_), fun o' ho' hh => ?_⟩
  · rw [cancel_len] at ho'
    rw [cancel_lines ho]
    refine ⟨hs.lines3 ho', ?_⟩
    rw [cancel_order ho]
    split
    · simp only; omega
    · exact hs.kind ho'
  · rw [cancel_len] at ho'
    rw [cancel_lines ho] at hk
    rw [cancel_line ho hk]
    have h1 := hs.line ho' hk
    split
    · exact lineOk_iff.2 ⟨h1.1, h1.2.1, h1.2.2.1, by simp only; omega⟩
    · exact lineOk_iff.2 h1
  · have hx' := (List.mem_filter.1 hx).1
    have h1 := holdIn_iff.1 (List.all_eq_true.1 (formed_iff.1 hs.form).2.2.1 x hx')
    refine holdIn_iff.2 ⟨by rw [cancel_len]; exact h1.1, ?_, h1.2.2⟩
    rw [cancel_lines ho]
    exact h1.2.1
  · rw [cancel_len] at ho'
    rw [cancel_lines ho] at hk
    have h1 := hr.lineSum ho' hk
    have h2 := hs.line ho' hk
    have e : kept (cancelS s o).holds o' k = if (o' : Int) = (o : Int) then 0 else kept s.holds o' k := kept_filter _ _ _ _
    refine lineSummed_iff.2 ?_
    rw [cancel_line ho hk, cancel_order ho, e]
    by_cases he : o' = o
    · subst he
      rw [if_pos rfl, if_pos rfl, if_pos rfl]
      simp only
      rw [if_neg (by omega)]
      omega
    · rw [if_neg he, if_neg he, if_neg (by omega)]
      exact h1
  · rw [cancel_len] at ho'
    rw [cancel_order ho] at hh
    split at hh
    · exact absurd hh.1 (by simp only; omega)
    · exact hgot o' ho' hh
theorem cancel_right {p : Plan} {s : State} {o : Int} (h : (cancel p s o).2 = 0) : checkState p s = 0 ∧ ∃ i : Nat, o = i ∧ i < s.orders.length ∧ (s.order i).kind ≠ 2 ∧ (cancel p s o).1 = cancelS s i := by
  unfold cancel at h ⊢
  by_cases h1 : checkState p s = 0
  · rw [if_neg (fun hn => hn h1)] at h ⊢
    cases h2 : within o 0 (s.orders.length - 1)
    · rw [h2, if_pos (by rfl)] at h
      simp at h
    · rw [h2, if_neg (by simp)] at h
      have h3 := within_iff.1 h2
      by_cases h4 : (s.order o.toNat).kind = 2
      · rw [if_pos h4] at h
        simp at h
      · refine ⟨h1, o.toNat, by omega, by omega, h4, ?_⟩
        rw [if_neg (by simp), if_neg h4]
  · rw [if_pos h1] at h
    exact absurd h h1
theorem release_right {p : Plan} {s : State} (h : (release p s).2 = 0) : checkState p s = 0 ∧ (release p s).1 = releaseS p s := by
  unfold release at h ⊢
  by_cases h1 : checkState p s = 0
  · rw [if_neg (fun hn => hn h1)]
    exact ⟨h1, rfl⟩
  · rw [if_pos h1] at h
    exact absurd h h1
end Wh
namespace Wh

def fl (o : Order) (k : Nat) : Order := ⟨1, (o.lines.take k).map (fun x => { x with back := x.want }) ++ o.lines.drop k⟩
def freedN (s : State) (n : Nat) : State := { s with orders := (s.orders.take n).map freed ++ s.orders.drop n }
def freedK (s : State) (n k : Nat) : State := { s with orders := (freedN s n).orders.set n (fl (s.order n) k) }
section
variable {s : State} {n k : Nat}
theorem freedN_zero (s : State) : freedN s 0 = s := by simp [freedN]
theorem freedN_all (s : State) : freedN s s.orders.length = freedS s := by simp [freedN, freedS]
theorem freedN_len (s : State) (n : Nat) : (freedN s n).orders.length = s.orders.length := by
  unfold freedN
  simp only [List.length_append, List.length_map, List.length_take, List.length_drop]
  omega
theorem freedN_order (hn : n < s.orders.length) : (freedN s n).order n = s.order n := by
  unfold State.order orderAt freedN
  simp only [List.getD]
  rw [List.getElem?_append_right (by simp; omega)]
  simp [Nat.min_eq_left (Nat.le_of_lt hn)]
theorem freedN_succ (hn : n < s.orders.length) : freedN s (n + 1) = { s with orders := (freedN s n).orders.set n (freed (s.order n)) } := by
  have e : s.order n = s.orders[n] := orderAt_eq hn
  unfold freedN
  rw [e, List.take_succ_eq_append_getElem hn, List.map_append, List.append_assoc]
  congr 1
  have h1 : ((s.orders.take n).map freed).length = n := by simp; omega
  rw [List.set_append_right _ _ (by omega), h1, Nat.sub_self, List.drop_eq_getElem_cons hn]
  rfl
theorem freedN_self (hn : n < s.orders.length) : (freedN s n).orders.set n (s.order n) = (freedN s n).orders := by
  rw [← freedN_order hn]
  unfold State.order
  rw [orderAt_eq (by rw [freedN_len]; exact hn), List.set_getElem_self]
theorem freedN_skip (hn : n < s.orders.length) (hk : (s.order n).kind ≠ 0) : freedN s (n + 1) = freedN s n := by
  rw [freedN_succ hn]
  have : freed (s.order n) = s.order n := by unfold freed; rw [if_neg hk]
  rw [this, freedN_self hn]
  rfl
theorem fl_zero (o : Order) : fl o 0 = { o with kind := 1 } := by simp [fl]
theorem fl_all (o : Order) (hk : o.kind = 0) : fl o o.lines.length = freed o := by
  unfold fl freed
  rw [if_pos hk]
  simp
theorem fl_len (o : Order) (k : Nat) : (fl o k).lines.length = o.lines.length := by
  unfold fl
  simp only [List.length_append, List.length_map, List.length_take, List.length_drop]
  omega
theorem fl_line {o : Order} {k : Nat} (hk : k < o.lines.length) : lineAt (fl o k).lines k = lineAt o.lines k := by
  unfold fl lineAt
  simp only [List.getD]
  rw [List.getElem?_append_right (by simp; omega)]
  simp [Nat.min_eq_left (Nat.le_of_lt hk)]
theorem fl_succ {o : Order} {k : Nat} (hk : k < o.lines.length) : fl o (k + 1) = { fl o k with lines := (fl o k).lines.set k { lineAt o.lines k with back := (lineAt o.lines k).want } } := by
  have e : lineAt o.lines k = o.lines[k] := lineAt_eq hk
  unfold fl
  rw [e, List.take_succ_eq_append_getElem hk, List.map_append, List.append_assoc]
  congr 1
  have h1 : ((o.lines.take k).map fun x => ({ x with back := x.want } : Line)).length = k := by simp; omega
  rw [List.set_append_right _ _ (by omega), h1, Nat.sub_self, List.drop_eq_getElem_cons hk]
  rfl
theorem freedK_zero (hn : n < s.orders.length) : ({ freedN s n with orders := (freedN s n).orders.set n { (freedN s n).order n with kind := 1 } } : State) = freedK s n 0 := by
  unfold freedK
  rw [fl_zero, freedN_order hn]
  rfl
theorem freedK_len : (freedK s n k).orders.length = s.orders.length := by
  unfold freedK
  rw [List.length_set, freedN_len]
theorem freedK_order (hn : n < s.orders.length) : (freedK s n k).order n = fl (s.order n) k := by
  have := orderAt_set (l := (freedN s n).orders) (o := n) (by rw [freedN_len]; exact hn) (fl (s.order n) k) n
  rw [if_pos rfl] at this
  exact this
theorem freedK_lines (hn : n < s.orders.length) : ((freedK s n k).order n).lines.length = (s.order n).lines.length := by rw [freedK_order hn, fl_len]
theorem freedK_line (hn : n < s.orders.length) (hk : k < (s.order n).lines.length) : (freedK s n k).line n k = s.line n k := by
  unfold State.line
  rw [freedK_order hn, fl_line hk]
theorem freedK_succ (hn : n < s.orders.length) (hk : k < (s.order n).lines.length) : (freedK s n k).setLine n k { s.line n k with back := (s.line n k).want } = freedK s n (k + 1) := by
  unfold State.setLine
  rw [freedK_order hn]
  have e : s.line n k = lineAt (s.order n).lines k := rfl
  rw [e, ← fl_succ hk]
  show ({ s with orders := ((freedN s n).orders.set n (fl (s.order n) k)).set n (fl (s.order n) (k + 1)) } : State) = _
  rw [List.set_set]
  rfl
theorem freedK_all (hn : n < s.orders.length) (hk : (s.order n).kind = 0) : freedK s n (s.order n).lines.length = freedN s (n + 1) := by
  unfold freedK
  rw [fl_all _ hk, freedN_succ hn]

-- what is taken, order by order, line by line
def relK (p : Plan) (s : State) (n k : Nat) : State := takeLines p n k (takeOrders p n (freedS s))
theorem relK_facts {p : Plan} (h : checkState p s = 0) (hn : n < s.orders.length) (hkd : ((takeOrders p n (freedS s)).order n).kind = 1) (hk : k ≤ (s.order n).lines.length) :
    Right p (relK p s n k) ∧ (relK p s n k).orders.length = s.orders.length ∧ (∀ o, ((relK p s n k).order o).kind = ((takeOrders p n (freedS s)).order o).kind) ∧ ((relK p s n k).order n).lines.length = (s.order n).lines.length := by
  have hf := right_of_check (freed_right h)
  have h1 := takeOrders_taken hf n (by rw [freed_len]; omega)
  have hl : ((takeOrders p n (freedS s)).order n).lines.length = (s.order n).lines.length := by rw [h1.lines, freed_lines s hn]
  have h2 := takeLines_taken h1.right (o := n) (by rw [h1.orders, freed_len]; exact hn) hkd k (by rw [hl]; exact hk)
  exact ⟨h2.right, by rw [show relK p s n k = takeLines p n k (takeOrders p n (freedS s)) from rfl, h2.orders, h1.orders, freed_len], h2.kind, by rw [show relK p s n k = takeLines p n k (takeOrders p n (freedS s)) from rfl, h2.lines, hl]⟩
theorem relK_may {p : Plan} (h : checkState p s = 0) (hn : n < s.orders.length) (hkd : ((takeOrders p n (freedS s)).order n).kind = 1) (hk : k < (s.order n).lines.length) : May (relK p s n k) n k ((relK p s n k).line n k).back := by
  obtain ⟨h1, h2, h3, h4⟩ := relK_facts h hn hkd (Nat.le_of_lt hk)
  exact sane_back h1 (by rw [h2]; exact hn) (by rw [h4]; exact hk) (by rw [h3]; exact hkd)
theorem relO_facts {p : Plan} (h : checkState p s = 0) (hn : n ≤ s.orders.length) : Right p (takeOrders p n (freedS s)) ∧ (takeOrders p n (freedS s)).orders.length = s.orders.length ∧ ∀ o, o < s.orders.length → ((takeOrders p n (freedS s)).order o).lines.length = (s.order o).lines.length := by
  have hf := right_of_check (freed_right h)
  have h1 := takeOrders_taken hf n (by rw [freed_len]; omega)
  exact ⟨h1.right, by rw [h1.orders, freed_len], fun o ho => by rw [h1.lines, freed_lines s ho]⟩
theorem relO_yes {p : Plan} (h : checkState p s = 0) (hn : n < s.orders.length) (hkd : ((takeOrders p n (freedS s)).order n).kind = 1) : relK p s n (s.order n).lines.length = takeOrders p (n + 1) (freedS s) := by
  show _ = takeOrder p (takeOrders p n (freedS s)) n
  unfold takeOrder
  rw [if_pos hkd, (relO_facts h (Nat.le_of_lt hn)).2.2 n hn]
  rfl
theorem relO_no {p : Plan} (hkd : ((takeOrders p n (freedS s)).order n).kind ≠ 1) : takeOrders p (n + 1) (freedS s) = takeOrders p n (freedS s) := by
  show takeOrder p (takeOrders p n (freedS s)) n = _
  unfold takeOrder
  rw [if_neg hkd]
end
section
variable {p : Plan} {s : State} {o : Int}
theorem release_bad (h : checkState p s ≠ 0) : release p s = (dState, checkState p s) := by unfold release; rw [if_pos h]
theorem release_ok (h : checkState p s = 0) : release p s = (releaseS p s, 0) := by unfold release; rw [if_neg (fun hn => hn h)]
theorem cancel_bad (h : checkState p s ≠ 0) : cancel p s o = (dState, checkState p s) := by unfold cancel; rw [if_pos h]
theorem cancel_none (h : checkState p s = 0) (h2 : o < 0 ∨ (s.orders.length : Int) ≤ o) : cancel p s o = (dState, 4) := by
  unfold cancel
  rw [if_neg (fun hn => hn h), within_false.2 (by omega)]
  rfl
theorem cancel_done {i : Nat} (h : checkState p s = 0) (hi : i < s.orders.length) (hk : (s.order i).kind = 2) : cancel p s i = (dState, 6) := by
  unfold cancel
  rw [if_neg (fun hn => hn h), within_iff.2 (by omega), if_neg (by simp), Int.toNat_natCast, if_pos hk]
theorem cancel_ok {i : Nat} (h : checkState p s = 0) (hi : i < s.orders.length) (hk : (s.order i).kind ≠ 2) : cancel p s i = (cancelS s i, 0) := by
  unfold cancel
  rw [if_neg (fun hn => hn h), within_iff.2 (by omega), if_neg (by simp), Int.toNat_natCast, if_neg hk]
end
/-- Who is cancelled: line by line. -/
def clines (o : Order) (k : Nat) : List Line := (o.lines.take k).map (fun x => { x with back := x.want - x.got }) ++ o.lines.drop k
theorem clines_zero (o : Order) : clines o 0 = o.lines := by simp [clines]
theorem clines_all (o : Order) : clines o o.lines.length = o.lines.map fun x => { x with back := x.want - x.got } := by simp [clines]
theorem clines_len (o : Order) (k : Nat) : (clines o k).length = o.lines.length := by
  unfold clines
  simp only [List.length_append, List.length_map, List.length_take, List.length_drop]
  omega
theorem clines_line {o : Order} {k : Nat} (hk : k < o.lines.length) : lineAt (clines o k) k = lineAt o.lines k := by
  unfold clines lineAt
  simp only [List.getD]
  rw [List.getElem?_append_right (by simp; omega)]
  simp [Nat.min_eq_left (Nat.le_of_lt hk)]
theorem clines_succ {o : Order} {k : Nat} (hk : k < o.lines.length) : clines o (k + 1) = (clines o k).set k { lineAt o.lines k with back := (lineAt o.lines k).want - (lineAt o.lines k).got } := by
  have e : lineAt o.lines k = o.lines[k] := lineAt_eq hk
  unfold clines
  rw [e, List.take_succ_eq_append_getElem hk, List.map_append, List.append_assoc]
  have h1 : ((o.lines.take k).map fun x => ({ x with back := x.want - x.got } : Line)).length = k := by simp; omega
  rw [List.set_append_right _ _ (by omega), h1, Nat.sub_self, List.drop_eq_getElem_cons hk]
  rfl
/-- The state whose order i is closed, k of its lines done. -/
def cancK (s : State) (l : List Hold) (i k : Nat) : State := { s with holds := l, orders := s.orders.set i ⟨2, clines (s.order i) k⟩ }
section
variable {s : State} {l : List Hold} {i k : Nat}
theorem cancK_zero : ({ s with holds := l, orders := s.orders.set i { s.order i with kind := 2 } } : State) = cancK s l i 0 := by
  unfold cancK
  rw [clines_zero]
theorem cancK_len : (cancK s l i k).orders.length = s.orders.length := by unfold cancK; rw [List.length_set]
theorem cancK_order (hi : i < s.orders.length) : (cancK s l i k).order i = ⟨2, clines (s.order i) k⟩ := by
  have := orderAt_set (l := s.orders) hi ⟨2, clines (s.order i) k⟩ i
  rw [if_pos rfl] at this
  exact this
theorem cancK_lines (hi : i < s.orders.length) : ((cancK s l i k).order i).lines.length = (s.order i).lines.length := by rw [cancK_order hi, clines_len]
theorem cancK_line (hi : i < s.orders.length) (hk : k < (s.order i).lines.length) : (cancK s l i k).line i k = s.line i k := by
  unfold State.line
  rw [cancK_order hi, clines_line hk]
theorem cancK_succ (hi : i < s.orders.length) (hk : k < (s.order i).lines.length) : (cancK s l i k).setLine i k { s.line i k with back := (s.line i k).want - (s.line i k).got } = cancK s l i (k + 1) := by
  unfold State.setLine
  rw [cancK_order hi]
  have e : s.line i k = lineAt (s.order i).lines k := rfl
  rw [e]
  show ({ s with holds := l, orders := (s.orders.set i ⟨2, clines (s.order i) k⟩).set i ⟨2, (clines (s.order i) k).set k _⟩ } : State) = _
  rw [List.set_set, ← clines_succ hk]
  rfl
theorem cancK_all : cancK s (s.holds.filter fun h => decide (h.order ≠ i)) i (s.order i).lines.length = cancelS s i := by
  unfold cancK cancelS
  rw [clines_all]
end
end Wh
