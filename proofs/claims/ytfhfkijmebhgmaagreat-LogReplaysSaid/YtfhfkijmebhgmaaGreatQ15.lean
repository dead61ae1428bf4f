/- Texts of the claim, joined: PlainM, PlainN. -/
import Derived.Test.YtfhfkijmebhgmaaGreatQ14
import Derived.Test.YtfhfkijmebhgmaaGreatQ10
namespace Wh

theorem foldl_inv {α β : Type} {P : β → Prop} {f : β → α → β} : ∀ {l : List α} {t : β}, (∀ t x, x ∈ l → P t → P (f t x)) → P t → P (l.foldl f t)
  | [], _, _, h => h
  | x :: l, _, hs, h => foldl_inv (l := l) (fun t y hy => hs t y (List.mem_cons_of_mem _ hy)) (hs _ x (List.mem_cons_self ..) h)

/-- t is s with moves more. -/
structure Filled (p : Plan) (s t : State) : Prop where
  right : Right p t
  got : ∀ o, o < t.orders.length → ¬ ((t.order o).kind = 1 ∧ allGot (t.order o) = true)
  rest : t = { s with moves := t.moves }
  ext : ∃ l, t.moves = s.moves ++ l ∧ ∀ x ∈ l, ((0 ≤ x.src ∧ x.src < p.bins.length) ∧ (0 ≤ x.dst ∧ x.dst < p.bins.length) ∧ (0 ≤ x.good ∧ x.good < p.sizes.length)) ∧ (p.bin x.src.toNat).front = false ∧ (p.bin x.dst.toNat).front = true ∧
    cell s.on x.dst.toNat x.good.toNat + coming t x.dst x.good ≤ (p.bin x.dst.toNat).high
  less : ∀ b : Nat, b < p.bins.length → free p t b ≤ free p s b ∧ (free p t b < free p s b → 0 ≤ free p t b)

section
variable {p : Plan} {s t : State} {b g f : Nat} {n : Int}
theorem goingOf_push (l : List Move) (x : Move) (b g : Int) : goingOf (l ++ [x]) b g = goingOf l b g + fromN b g x := by
  unfold goingOf
  rw [List.map_append, List.sum_append]
  simp
theorem comingOf_push (l : List Move) (x : Move) (b g : Int) : comingOf (l ++ [x]) b g = comingOf l b g + toN b g x := by
  unfold comingOf
  rw [List.map_append, List.sum_append]
  simp
/-- One more move. -/
def addMove (t : State) (x : Move) : State := { t with moves := t.moves ++ [x] }
theorem addMove_bound (x : Move) (b g : Int) : bound (addMove t x) b g = bound t b g + fromN b g x := by
  unfold bound
  have e : heldIn (addMove t x) b g = heldIn t b g := rfl
  have e2 : goingOf (addMove t x).moves b g = goingOf t.moves b g + fromN b g x := goingOf_push _ _ _ _
  rw [e, e2]
  omega
theorem addMove_coming (x : Move) (b g : Int) : coming (addMove t x) b g = coming t b g + toN b g x := comingOf_push _ _ _ _
theorem addMove_free (b' : Nat) (hg : g < p.sizes.length) : free p (addMove t ⟨g, f, b, n⟩) b' = free p t b' - if b' = b then n * intAt p.sizes g else 0 := by
  unfold free
  by_cases h : b' = b
  · subst h
    rw [if_pos rfl]
    have := sumTo_one (f := fun g => (cell t.on (b' : Int).toNat g + coming t b' g) * intAt p.sizes g) (g := fun g' => (cell (addMove t ⟨g, f, b', n⟩).on (b' : Int).toNat g' + coming (addMove t ⟨g, f, b', n⟩) b' g') * intAt p.sizes g') (n := p.sizes.length) (i := g) (d := n * intAt p.sizes g) hg (fun k hk hne => by
      have e : coming (addMove t ⟨g, f, b', n⟩) b' k = coming t b' k := by
        rw [addMove_coming]
        unfold toN
        rw [if_neg (by simp only; omega), Int.add_zero]
      simp only [e]
      rfl) (by
      have e : coming (addMove t ⟨g, f, b', n⟩) b' g = coming t b' g + n := by
        rw [addMove_coming]
        unfold toN
        rw [if_pos ⟨rfl, rfl⟩]
      simp only [e]
      have e1 : (addMove t ⟨g, f, b', n⟩).on = t.on := rfl
      rw [e1, ← Int.add_mul]
      congr 1
      omega)
    rw [this]
    omega
  · rw [if_neg h, Int.sub_zero]
    congr 1
    refine sumTo_congr fun k hk => ?_
    have e : coming (addMove t ⟨g, f, b, n⟩) b' k = coming t b' k := by
      rw [addMove_coming]
      unfold toN
      rw [if_neg (by simp only; omega), Int.add_zero]
    rw [e]
    rfl
theorem fill_room {r z n : Int} (hz : 1 ≤ z) (hn : 1 ≤ n) (h : n ≤ r.tdiv z) : n * z ≤ r := by
  have h0 : 0 < r := by
    refine Classical.byContradiction fun hr => ?_
    have h1 : (-r).tdiv z = -(r.tdiv z) := Int.neg_tdiv ..
    have h2 : 0 ≤ (-r).tdiv z := Int.tdiv_nonneg (by omega) (by omega)
    omega
  have h1 : z * r.tdiv z + r.tmod z = r := Int.mul_tdiv_add_tmod r z
  have h2 : 0 ≤ r.tmod z := Int.tmod_nonneg _ (by omega)
  have h3 : n * z ≤ r.tdiv z * z := Int.mul_le_mul_of_nonneg_right h (by omega)
  have h4 : r.tdiv z * z = z * r.tdiv z := Int.mul_comm _ _
  omega
theorem filled_move (h : Filled p s t) (hb : b < p.bins.length) (hg : g < p.sizes.length) (hf : f < p.bins.length) (hbf : (p.bin b).front = true) (hff : (p.bin f).front = false) (h8 : t.moves.length < 8) (hn : 0 < n)
    (h1 : n ≤ (p.bin b).high - cell t.on b g - coming t b g) (h2 : n ≤ avail t f g) (h3 : n * intAt p.sizes g ≤ free p t b) : Filled p s (addMove t ⟨g, f, b, n⟩) := by
  have hr := h.right
  have hs := hr.sane
  have hfb : f ≠ b := fun e => by rw [e, hbf] at hff; cases hff
  have hav := hr.avail_range hf hg
  have hcl := hs.cell hf hg
  have hon : t.on = s.on := by rw [h.rest]
  refine ⟨Right.of (Sane.of hs.shelf hs.orders4 ?_ (fun o ho => ⟨hs.lines3 ho, hs.kind ho⟩) (fun o k ho hk => lineOk_iff.2 (hs.line ho hk)) hs.holds (fun x hx => List.all_eq_true.1 (formed_iff.1 hs.form).2.2.1 x hx) (fun x hx => ?_)
    (formed_iff.1 hs.form).2.2.2.2.1 (formed_iff.1 hs.form).2.2.2.2.2.1 (formed_iff.1 hs.form).2.2.2.2.2.2) (fun g' hg' => hr.sum hg') (fun b' g' hb' hg' => ?_) (fun o k ho hk => hr.line o k ho hk), h.got, ?_, ?_, fun b' hb' => ?_⟩
  · show (t.moves ++ [_]).length ≤ 8
    simp
    omega
  · rcases List.mem_append.1 hx with hx | hx
    · exact List.all_eq_true.1 (formed_iff.1 hs.form).2.2.2.1 x hx
    · obtain rfl := List.mem_singleton.1 hx
      exact moveOk_iff.2 ⟨by simp only; omega, by simp only; omega, by simp only; omega, by simp only; omega, by simp only; omega, by simp only; omega⟩
  · have hq := hr.bnd hb' hg'
    rw [addMove_bound]
    have e1 : (addMove t ⟨g, f, b, n⟩).on = t.on := rfl
    rw [e1]
    unfold fromN
    simp only
    split
    · rename_i hc
      obtain ⟨c1, c2⟩ := hc
      obtain rfl : f = b' := by omega
      obtain rfl : g = g' := by omega
      unfold avail at h2
      simp only [Int.toNat_natCast] at h2
      omega
    · omega
  · have := h.rest
    unfold addMove
    simp only
    rw [this]
  · obtain ⟨l, hl, hx⟩ := h.ext
    refine ⟨l ++ [⟨g, f, b, n⟩], ?_, fun x hxm => ?_⟩
    · show t.moves ++ [_] = _
      rw [hl, List.append_assoc]
    · rw [addMove_coming]
      unfold toN
      simp only
      rcases List.mem_append.1 hxm with hxm | hxm
      · obtain ⟨x1, x2, x3, x4⟩ := hx x hxm
        refine ⟨x1, x2, x3, ?_⟩
        split
        · rename_i hc
          obtain ⟨c1, c2⟩ := hc
          rw [← c1, ← c2]
          simp only [Int.toNat_natCast]
          rw [← hon]
          omega
        · omega
      · obtain rfl := List.mem_singleton.1 hxm
        refine ⟨⟨by simp only; omega, by simp only; omega, by simp only; omega⟩, by simpa using hff, by simpa using hbf, ?_⟩
        rw [if_pos ⟨rfl, rfl⟩]
        simp only [Int.toNat_natCast]
        rw [← hon]
        omega
  · obtain ⟨l1, l2⟩ := h.less b' hb'
    rw [addMove_free b' hg]
    have hsz := right_size hs.plan hg
    have hpos : 0 ≤ n * intAt p.sizes g := Int.mul_nonneg (by omega) (by omega)
    by_cases e : b' = b
    · subst e
      rw [if_pos rfl]
      omega
    · rw [if_neg e]
      omega
theorem filled_one (h : Filled p s t) (hb : b < p.bins.length) (hg : g < p.sizes.length) (hf : f < p.bins.length) (hbf : (p.bin b).front = true) (hff : (p.bin f).front = false) : Filled p s (fill1 p t b g f) := by
  unfold fill1
  split
  · exact h
  · split
    · rename_i h8 hn
      have hsz := right_size h.right.sane.plan hg
      have hN : fillN p t b g f ≤ (p.bin b).high - cell t.on b g - coming t b g ∧ fillN p t b g f ≤ avail t f g ∧ fillN p t b g f ≤ (free p t b).tdiv (intAt p.sizes g) := by
        unfold fillN
        omega
      exact filled_move h hb hg hf hbf hff (by omega) hn hN.1 hN.2.1 (fill_room hsz.1 (by omega) hN.2.2)
    · exact h
theorem filled_good (h : Filled p s t) (hb : b < p.bins.length) (hg : g < p.sizes.length) (hbf : (p.bin b).front = true) : Filled p s (fillGood p b t g) := by
  unfold fillGood
  split
  · exact foldl_inv (P := Filled p s) (fun _ _ hf h => filled_one h hb hg (mem_kinds.1 hf).1 hbf (mem_kinds.1 hf).2) h
  · exact h
theorem filled_bin (h : Filled p s t) (hb : b < p.bins.length) (hbf : (p.bin b).front = true) : Filled p s ((List.range p.sizes.length).foldl (fillGood p b) t) :=
  foldl_inv (P := Filled p s) (fun _ _ hg h => filled_good h hb (List.mem_range.1 hg) hbf) h
theorem filled_self (h : checkState p s = 0) : Filled p s s := by
  obtain ⟨h1, h2⟩ := check_iff.1 h
  exact ⟨h1, h2, rfl, ⟨[], by simp, fun x hx => by simp at hx⟩, fun b hb => ⟨Int.le_refl _, fun hh => absurd hh (by omega)⟩⟩
theorem fillS_filled (h : checkState p s = 0) : Filled p s (fillS p s) :=
  foldl_inv (P := Filled p s) (fun _ _ hb h => filled_bin h (mem_kinds.1 hb).1 (mem_kinds.1 hb).2) (filled_self h)
theorem filled_check (h : Filled p s t) : checkState p t = 0 := check_iff.2 ⟨h.right, h.got⟩
theorem filled_full {t : State} (h : 8 ≤ t.moves.length) (p : Plan) (b g f : Nat) : fill1 p t b g f = t := by unfold fill1; rw [if_pos h]
theorem fillGood_full (h : 8 ≤ t.moves.length) (p : Plan) (b g : Nat) : fillGood p b t g = t := by
  unfold fillGood
  split
  · exact foldl_inv (P := fun u => u = t) (fun u f _ hu => by rw [hu]; exact filled_full h p b g f) rfl
  · rfl
theorem fillBin_full (h : 8 ≤ t.moves.length) (p : Plan) (b : Nat) (l : List Nat) : l.foldl (fillGood p b) t = t :=
  foldl_inv (P := fun u => u = t) (fun u g _ hu => by rw [hu]; exact fillGood_full h p b g) rfl
theorem fillBins_full (h : 8 ≤ t.moves.length) (p : Plan) (l : List Nat) : l.foldl (fun t b => (List.range p.sizes.length).foldl (fillGood p b) t) t = t :=
  foldl_inv (P := fun u => u = t) (fun u b _ hu => by rw [hu]; exact fillBin_full h p b _) rfl
theorem fill_right (h : (fill p s).2 = 0) : checkState p s = 0 ∧ (fill p s).1 = fillS p s := by
  unfold fill at h ⊢
  by_cases h1 : checkState p s = 0
  · rw [if_neg (fun hn => hn h1)]
    exact ⟨h1, rfl⟩
  · rw [if_pos h1] at h
    exact absurd h h1
end

-- a move that is done
section
variable {p : Plan} {s : State} {k : Nat} {n : Int}
theorem sum_erase {α : Type} (f : α → Int) : ∀ {l : List α} {k : Nat} (hk : k < l.length), ((l.eraseIdx k).map f).sum = (l.map f).sum - f l[k]
  | x :: l, 0, _ => by simp; omega
  | x :: l, k + 1, hk => by
    have := sum_erase f (l := l) (k := k) (by simpa using hk)
    simp only [List.eraseIdx_cons_succ, List.map_cons, List.sum_cons, List.getElem_cons_succ]
    omega
structure Moves (p : Plan) (s : State) (k : Nat) (n : Int) : Prop where
  hk : k < s.moves.length
  n0 : 0 ≤ n
  n1 : n ≤ (moveAt s.moves k).n
  full : cell s.on (moveAt s.moves k).dst.toNat (moveAt s.moves k).good.toNat + n ≤ 200
theorem goingOf_mem (hs : Sane p s) (hk : k < s.moves.length) : (moveAt s.moves k).n ≤ goingOf s.moves (moveAt s.moves k).src (moveAt s.moves k).good := by
  have h1 := sum_erase (fromN (moveAt s.moves k).src (moveAt s.moves k).good) hk
  have h2 : 0 ≤ ((s.moves.eraseIdx k).map (fromN (moveAt s.moves k).src (moveAt s.moves k).good)).sum := (list_sum_range (m := 200) (fun x hx => by
    obtain ⟨y, hy, rfl⟩ := List.mem_map.1 hx
    obtain ⟨i, hi, rfl⟩ := List.getElem_of_mem (List.mem_of_mem_eraseIdx hy)
    have := hs.moveAt hi
    rw [Wh.moveAt_eq hi] at this
    unfold fromN
    split <;> omega)).1
  have h3 : fromN (moveAt s.moves k).src (moveAt s.moves k).good s.moves[k] = (moveAt s.moves k).n := by
    rw [moveAt_eq hk]
    unfold fromN
    rw [if_pos ⟨rfl, rfl⟩]
  unfold goingOf
  omega
theorem moved_cell (hc : checkState p s = 0) (f : Moves p s k n) {b g : Nat} (hb : b < p.bins.length) (hg : g < p.sizes.length) : cell (movedS s k n).on b g = cell s.on b g + if (g : Int) = (moveAt s.moves k).good ∧ (b : Int) = (moveAt s.moves k).dst then n else if (g : Int) = (moveAt s.moves k).good ∧ (b : Int) = (moveAt s.moves k).src then -n else 0 := by
  have hs := (right_of_check hc).sane
  obtain ⟨m1, m2, m3, m4, m5, m6⟩ := hs.moveAt f.hk
  have h1 : (moveAt s.moves k).src.toNat < s.on.length := by rw [hs.onLen]; omega
  have h2 : (moveAt s.moves k).good.toNat < (rowAt s.on (moveAt s.moves k).src.toNat).length := by rw [hs.rowLen (by omega)]; omega
  have h3 : (moveAt s.moves k).dst.toNat < (setCell s.on (moveAt s.moves k).src.toNat (moveAt s.moves k).good.toNat (cell s.on (moveAt s.moves k).src.toNat (moveAt s.moves k).good.toNat - n)).length := by rw [length_setCell, hs.onLen]; omega
  have h4 : (moveAt s.moves k).good.toNat < (rowAt (setCell s.on (moveAt s.moves k).src.toNat (moveAt s.moves k).good.toNat (cell s.on (moveAt s.moves k).src.toNat (moveAt s.moves k).good.toNat - n)) (moveAt s.moves k).dst.toNat).length := by
    rw [rowlen_setCell, hs.rowLen (by omega)]; omega
  have e : cell (movedS s k n).on b g = _ := cell_setCell h3 h4
  rw [e, cell_setCell h1 h2, cell_setCell h1 h2]
  by_cases c1 : (g : Int) = (moveAt s.moves k).good ∧ (b : Int) = (moveAt s.moves k).dst
  · rw [if_pos (by omega), if_neg (by omega), if_pos c1]
    obtain ⟨rfl, rfl⟩ : b = (moveAt s.moves k).dst.toNat ∧ g = (moveAt s.moves k).good.toNat := by omega
    rfl
  · rw [if_neg (by omega), if_neg c1]
    by_cases c2 : (g : Int) = (moveAt s.moves k).good ∧ (b : Int) = (moveAt s.moves k).src
    · rw [if_pos (by omega), if_pos c2]
      obtain ⟨rfl, rfl⟩ : b = (moveAt s.moves k).src.toNat ∧ g = (moveAt s.moves k).good.toNat := by omega
      omega
    · rw [if_neg (by omega), if_neg c2, Int.add_zero]
theorem moved_bound (f : Moves p s k n) (b g : Int) : bound (movedS s k n) b g = bound s b g - if (moveAt s.moves k).src = b ∧ (moveAt s.moves k).good = g then (moveAt s.moves k).n else 0 := by
  unfold bound
  have e1 : heldIn (movedS s k n) b g = heldIn s b g := rfl
  have e2 : goingOf (movedS s k n).moves b g = _ := sum_erase (fromN b g) f.hk
  rw [e1, e2]
  have e3 : fromN b g (s.moves[k]'f.hk) = if (moveAt s.moves k).src = b ∧ (moveAt s.moves k).good = g then (moveAt s.moves k).n else 0 := by
    rw [moveAt_eq f.hk]
    rfl
  rw [e3]
  unfold goingOf
  omega
theorem moved_sum (hc : checkState p s = 0) (f : Moves p s k n) {g : Nat} (_ : g < p.sizes.length) : sumOf (movedS s k n).on g = sumOf s.on g := by
  have hs := (right_of_check hc).sane
  obtain ⟨m1, m2, m3, m4, m5, m6⟩ := hs.moveAt f.hk
  have h1 : (moveAt s.moves k).src.toNat < s.on.length := by rw [hs.onLen]; omega
  have h2 : (moveAt s.moves k).good.toNat < (rowAt s.on (moveAt s.moves k).src.toNat).length := by rw [hs.rowLen (by omega)]; omega
  have h3 : (moveAt s.moves k).dst.toNat < (setCell s.on (moveAt s.moves k).src.toNat (moveAt s.moves k).good.toNat (cell s.on (moveAt s.moves k).src.toNat (moveAt s.moves k).good.toNat - n)).length := by rw [length_setCell, hs.onLen]; omega
  have h4 : (moveAt s.moves k).good.toNat < (rowAt (setCell s.on (moveAt s.moves k).src.toNat (moveAt s.moves k).good.toNat (cell s.on (moveAt s.moves k).src.toNat (moveAt s.moves k).good.toNat - n)) (moveAt s.moves k).dst.toNat).length := by
    rw [rowlen_setCell, hs.rowLen (by omega)]; omega
  have e : sumOf (movedS s k n).on g = _ := sumOf_setCell h3 h4 g
  rw [e, sumOf_setCell h1 h2, cell_setCell h1 h2, if_neg (show ¬ ((moveAt s.moves k).dst.toNat = (moveAt s.moves k).src.toNat ∧ _) by omega)]
  split <;> omega
theorem moved_check (hc : checkState p s = 0) (f : Moves p s k n) : checkState p (movedS s k n) = 0 := by
  obtain ⟨hr, hgot⟩ := check_iff.1 hc
  have hs := hr.sane
  obtain ⟨m1, m2, m3, m4, m5, m6⟩ := hs.moveAt f.hk
  have hge := goingOf_mem hs f.hk
  have n0 := f.n0
  have n1 := f.n1
  have hlen : (movedS s k n).on.length = p.bins.length := by
    show (setCell (setCell _ _ _ _) _ _ _).length = _
    rw [length_setCell, length_setCell, hs.onLen]
  have hrow : ∀ b, b < p.bins.length → (rowAt (movedS s k n).on b).length = p.sizes.length := fun b hb => by
    show (rowAt (setCell (setCell _ _ _ _) _ _ _) b).length = _
    rw [rowlen_setCell, rowlen_setCell, hs.rowLen hb]
  obtain ⟨gs, hgs⟩ : ∃ gs : Nat, (moveAt s.moves k).good = gs := ⟨(moveAt s.moves k).good.toNat, by omega⟩
  obtain ⟨bs, hbs⟩ : ∃ bs : Nat, (moveAt s.moves k).src = bs := ⟨(moveAt s.moves k).src.toNat, by omega⟩
  obtain ⟨ds, hds⟩ : ∃ ds : Nat, (moveAt s.moves k).dst = ds := ⟨(moveAt s.moves k).dst.toNat, by omega⟩
  have hbn := hr.bnd (b := bs) (g := gs) (by omega) (by omega)
  have hhl := heldTo_range hs bs gs s.holds.length
  rw [heldTo_all] at hhl
  have hfull := f.full
  rw [hgs, hds] at hfull
  simp only [Int.toNat_natCast] at hfull
  refine check_iff.2 ⟨Right.of (Sane.of ?_ hs.orders4 ?_ (fun o ho => ⟨hs.lines3 ho, hs.kind ho⟩) (fun o k ho hk => lineOk_iff.2 (hs.line ho hk)) hs.holds (fun x hx => List.all_eq_true.1 (formed_iff.1 hs.form).2.2.1 x hx) (fun x hx => ?_)
    (formed_iff.1 hs.form).2.2.2.2.1 (formed_iff.1 hs.form).2.2.2.2.2.1 (formed_iff.1 hs.form).2.2.2.2.2.2) (fun g' hg' => ?_) (fun b' g' hb' hg' => ?_) (fun o k ho hk => hr.line o k ho hk), hgot⟩
  · refine checkShelf_zero.2 ⟨hs.plan, shelfOk_iff.2 ⟨hlen, fun b hb => ?_⟩⟩
    rw [hlen] at hb
    refine ⟨hrow b hb, fun g hg => ?_⟩
    rw [moved_cell hc f hb hg]
    have hcl := hs.cell hb hg
    rw [hgs, hbs, hds]
    split
    · rename_i c
      obtain ⟨rfl, rfl⟩ : g = gs ∧ b = ds := by omega
      omega
    · split
      · rename_i c
        obtain ⟨rfl, rfl⟩ : g = gs ∧ b = bs := by omega
        unfold bound at hbn
        rw [hgs, hbs] at hge
        omega
      · omega
  · show (s.moves.eraseIdx k).length ≤ 8
    rw [List.length_eraseIdx]
    have := hs.moves8
    split <;> omega
  · exact List.all_eq_true.1 (formed_iff.1 hs.form).2.2.2.1 x (List.mem_of_mem_eraseIdx hx)
  · rw [moved_sum hc f hg']
    exact hr.sum hg'
  · have hq := hr.bnd hb' hg'
    rw [moved_bound f, moved_cell hc f hb' hg']
    rw [hgs, hbs, hds]
    have hsd : bs ≠ ds := by omega
    split
    · rename_i c
      obtain ⟨c1, c2⟩ := c
      rw [if_neg (by omega), if_pos (by omega)]
      omega
    · rename_i c
      split <;> omega
theorem moved_right {k n : Int} (h : (moved p s k n).2 = 0) : checkState p s = 0 ∧ ∃ i : Nat, k = i ∧ Moves p s i n ∧ (moved p s k n).1 = movedS s i n := by
  unfold moved at h ⊢
  by_cases h1 : checkState p s = 0
  · rw [if_neg (fun hn => hn h1)] at h ⊢
    cases h2 : within k 0 (s.moves.length - 1)
    · rw [h2, if_pos (by rfl)] at h
      simp at h
    rw [h2, if_neg (by simp)] at h
    rw [if_neg (by simp)]
    cases h3 : within n 0 (moveAt s.moves k.toNat).n
    · rw [h3, if_pos (by rfl)] at h
      simp at h
    rw [h3, if_neg (by simp)] at h
    rw [if_neg (by simp)]
    have h2' := within_iff.1 h2
    have h3' := within_iff.1 h3
    by_cases h4 : 200 < cell s.on (moveAt s.moves k.toNat).dst.toNat (moveAt s.moves k.toNat).good.toNat + n
    · rw [if_pos h4] at h
      simp at h
    rw [if_neg h4]
    exact ⟨h1, k.toNat, by omega, ⟨by omega, h3'.1, h3'.2, by omega⟩, rfl⟩
  · rw [if_pos h1] at h
    exact absurd h h1
end
section
variable {p : Plan} {s : State} {k n : Int}
theorem fill_bad (h : checkState p s ≠ 0) : fill p s = (dState, checkState p s) := by unfold fill; rw [if_pos h]
theorem fill_ok (h : checkState p s = 0) : fill p s = (fillS p s, 0) := by unfold fill; rw [if_neg (fun hn => hn h)]
theorem moved_bad (h : checkState p s ≠ 0) : moved p s k n = (dState, checkState p s) := by unfold moved; rw [if_pos h]
theorem moved_none (h : checkState p s = 0) (h2 : k < 0 ∨ (s.moves.length : Int) ≤ k) : moved p s k n = (dState, 4) := by
  unfold moved
  rw [if_neg (fun hn => hn h), within_false.2 (by omega)]
  rfl
theorem moved_range {i : Nat} (h : checkState p s = 0) (hi : i < s.moves.length) (h3 : n < 0 ∨ (moveAt s.moves i).n < n) : moved p s i n = (dState, 3) := by
  unfold moved
  rw [if_neg (fun hn => hn h), within_iff.2 (by omega), if_neg (by simp), Int.toNat_natCast, within_false.2 h3]
  rfl
theorem moved_many {i : Nat} (h : checkState p s = 0) (hi : i < s.moves.length) (h3 : 0 ≤ n ∧ n ≤ (moveAt s.moves i).n) (h4 : 200 < cell s.on (moveAt s.moves i).dst.toNat (moveAt s.moves i).good.toNat + n) : moved p s i n = (dState, 2) := by
  unfold moved
  rw [if_neg (fun hn => hn h), within_iff.2 (by omega), if_neg (by simp), Int.toNat_natCast, within_iff.2 h3, if_neg (by simp), if_pos h4]
theorem moved_ok {i : Nat} (h : checkState p s = 0) (f : Moves p s i n) : moved p s i n = (movedS s i n, 0) := by
  have hk := f.hk
  have h4 := f.full
  unfold moved
  rw [if_neg (fun hn => hn h), within_iff.2 (by omega), if_neg (by simp), Int.toNat_natCast, within_iff.2 ⟨f.n0, f.n1⟩, if_neg (by simp), if_neg (by omega)]
end
end Wh
namespace Wh

/-- Things that have a number, of which some may be cut. -/
structure Cutter (α : Type) where
  is : α → Bool
  num : α → Int
  put : α → Int → α
  num_put : ∀ x n, num (put x n) = n
  is_put : ∀ x n, is (put x n) = is x
  put_put : ∀ x n m, put (put x n) m = put x m
  put_num : ∀ x, put x (num x) = x

namespace Cutter
variable {α : Type} (C : Cutter α)
def part (x : α) : Int := if C.is x = true then C.num x else 0
def all (l : List α) : Int := (l.map C.part).sum
def less (v n : Int) : Int := min n (max v 0)
/-- From behind: as many as may be taken away; what is still over. -/
def cut : List α → Int → List α × Int
  | [], v => ([], v)
  | x :: r, v => if C.is x = true then (C.put x (C.num x - less (cut r v).2 (C.num x)) :: (cut r v).1, (cut r v).2 - less (cut r v).2 (C.num x)) else (x :: (cut r v).1, (cut r v).2)
def keep (x : α) : Bool := !decide (C.num x = 0)
def rest (l : List α) (v : Int) : List α := (C.cut l v).1.filter C.keep
def Pos (l : List α) : Prop := ∀ x ∈ l, 1 ≤ C.num x

variable {C}
theorem Pos.cons {x : α} {r : List α} (h : C.Pos (x :: r)) : 1 ≤ C.num x ∧ C.Pos r := ⟨h x (List.mem_cons_self ..), fun y hy => h y (List.mem_cons_of_mem _ hy)⟩
theorem all_cons (x : α) (r : List α) : C.all (x :: r) = C.part x + C.all r := by unfold all; rw [List.map_cons, List.sum_cons]
theorem all_nonneg {l : List α} (h : ∀ x ∈ l, 0 ≤ C.num x) : 0 ≤ C.all l := by
  induction l with
  | nil => exact Int.le_refl _
  | cons x r ih =>
    have h1 := h x (List.mem_cons_self ..)
    have h2 := ih fun y hy => h y (List.mem_cons_of_mem _ hy)
    rw [all_cons]
    unfold part
    split <;> omega
theorem cut_is {x : α} (hx : C.is x = true) (r : List α) (v : Int) : C.cut (x :: r) v = (C.put x (C.num x - less (C.cut r v).2 (C.num x)) :: (C.cut r v).1, (C.cut r v).2 - less (C.cut r v).2 (C.num x)) := by rw [cut, if_pos hx]
theorem cut_not {x : α} (hx : C.is x = false) (r : List α) (v : Int) : C.cut (x :: r) v = (x :: (C.cut r v).1, (C.cut r v).2) := by rw [cut, if_neg (by rw [hx]; simp)]
theorem cut_over {l : List α} (h : ∀ x ∈ l, 0 ≤ C.num x) (v : Int) : (C.cut l v).2 = v - min (max v 0) (C.all l) := by
  induction l with
  | nil => show v = v - min (max v 0) 0; omega
  | cons x r ih =>
    have h1 := h x (List.mem_cons_self ..)
    have hr := fun y hy => h y (List.mem_cons_of_mem _ hy)
    have h2 := ih hr
    have h3 := all_nonneg hr
    rw [all_cons]
    unfold part
    cases hx : C.is x
    · rw [cut_not hx]
      simp only [Bool.false_eq_true, if_false]
      omega
    · rw [cut_is hx]
      simp only [if_true]
      unfold less
      omega
theorem cut_length (l : List α) (v : Int) : (C.cut l v).1.length = l.length := by
  induction l with
  | nil => rfl
  | cons x r ih =>
    cases hx : C.is x
    · rw [cut_not hx]; simp [ih]
    · rw [cut_is hx]; simp [ih]
theorem cut_all {l : List α} (h : ∀ x ∈ l, 0 ≤ C.num x) (v : Int) : C.all (C.cut l v).1 = C.all l - min (max v 0) (C.all l) := by
  induction l with
  | nil => show (0 : Int) = 0 - min (max v 0) 0; omega
  | cons x r ih =>
    have h1 := h x (List.mem_cons_self ..)
    have hr := fun y hy => h y (List.mem_cons_of_mem _ hy)
    have h2 := ih hr
    have h3 := all_nonneg hr
    have h4 := cut_over hr v
    rw [all_cons]
    cases hx : C.is x
    · rw [cut_not hx]
      simp only
      rw [all_cons]
      unfold part
      rw [hx]
      simp only [Bool.false_eq_true, if_false]
      omega
    · rw [cut_is hx]
      simp only
      rw [all_cons]
      unfold part
      rw [C.is_put, hx, C.num_put]
      simp only [if_true]
      unfold less
      omega
/-- Each one is as it was, or has less. -/
theorem cut_mem {l : List α} (h : ∀ x ∈ l, 0 ≤ C.num x) (v : Int) : ∀ y ∈ (C.cut l v).1, ∃ x ∈ l, y = C.put x (C.num y) ∧ 0 ≤ C.num y ∧ C.num y ≤ C.num x ∧ (C.is x = false → y = x) := by
  induction l with
  | nil => intro y hy; simp [cut] at hy
  | cons x r ih =>
    have h1 := h x (List.mem_cons_self ..)
    have hr := fun y hy => h y (List.mem_cons_of_mem _ hy)
    intro y hy
    cases hx : C.is x
    · rw [cut_not hx] at hy
      rcases List.mem_cons.1 hy with rfl | hy
      · exact ⟨y, List.mem_cons_self .., (C.put_num y).symm, h1, Int.le_refl _, fun _ => rfl⟩
      · obtain ⟨z, hz, h2⟩ := ih hr y hy
        exact ⟨z, List.mem_cons_of_mem _ hz, h2⟩
    · rw [cut_is hx] at hy
      rcases List.mem_cons.1 hy with rfl | hy
      · refine ⟨x, List.mem_cons_self .., ?_, ?_, ?_, fun h => by rw [hx] at h; cases h⟩
        · rw [C.num_put]
        · rw [C.num_put]; unfold less; omega
        · rw [C.num_put]; unfold less; omega
      · obtain ⟨z, hz, h2⟩ := ih hr y hy
        exact ⟨z, List.mem_cons_of_mem _ hz, h2⟩
theorem cut_none {l : List α} (h : ∀ x ∈ l, 0 ≤ C.num x) {v : Int} (hv : v ≤ 0) : (C.cut l v).1 = l := by
  induction l with
  | nil => rfl
  | cons x r ih =>
    have h1 := h x (List.mem_cons_self ..)
    have hr := fun y hy => h y (List.mem_cons_of_mem _ hy)
    have h2 := cut_over hr v
    have h3 := all_nonneg hr
    cases hx : C.is x
    · rw [cut_not hx, ih hr]
    · rw [cut_is hx, ih hr]
      simp only
      have : less (C.cut r v).2 (C.num x) = 0 := by unfold less; omega
      rw [this, Int.sub_zero, C.put_num]
theorem cut_max {l : List α} (h : ∀ x ∈ l, 0 ≤ C.num x) (v : Int) : (C.cut l v).1 = (C.cut l (max v 0)).1 := by
  by_cases hv : v ≤ 0
  · rw [cut_none h hv, cut_none h (by omega)]
  · rw [show max v 0 = v by omega]
theorem rest_max {l : List α} (h : C.Pos l) (v : Int) : C.rest l v = C.rest l (max v 0) := by
  unfold rest
  rw [cut_max (fun x hx => by have := h x hx; omega)]
theorem rest_pos {l : List α} (h : C.Pos l) (v : Int) : C.Pos (C.rest l v) := fun y hy => by
  obtain ⟨h1, h2⟩ := List.mem_filter.1 hy
  obtain ⟨x, _, _, h3, _⟩ := cut_mem (fun x hx => by have := h x hx; omega) v y h1
  unfold keep at h2
  simp at h2
  omega
theorem all_filter (l : List α) : C.all (l.filter C.keep) = C.all l := by
  induction l with
  | nil => rfl
  | cons x r ih =>
    rw [List.filter_cons, all_cons]
    split
    · rw [all_cons, ih]
    · rename_i hk
      unfold keep at hk
      simp at hk
      rw [ih]
      unfold part
      rw [hk]
      split <;> omega
theorem rest_all {l : List α} (h : C.Pos l) (v : Int) : C.all (C.rest l v) = C.all l - min (max v 0) (C.all l) := by
  unfold rest
  rw [all_filter, cut_all (fun x hx => by have := h x hx; omega)]
theorem rest_mem {l : List α} (h : C.Pos l) (v : Int) : ∀ y ∈ C.rest l v, ∃ x ∈ l, y = C.put x (C.num y) ∧ 1 ≤ C.num y ∧ C.num y ≤ C.num x ∧ (C.is x = false → y = x) := fun y hy => by
  have h0 := rest_pos h v y hy
  obtain ⟨x, h1, h2, _, h4⟩ := cut_mem (fun x hx => by have := h x hx; omega) v y (List.mem_filter.1 hy).1
  exact ⟨x, h1, h2, h0, h4⟩
end Cutter
end Wh
