/- Texts of the claim, joined: PlainL, PlainO, PlainP, CountFa. -/
import Derived.Test.YtfhfkijmebhgmaaGreatQ11
import Derived.Test.YtfhfkijmebhgmaaGreatQ10
namespace Wh

section
variable {p : Plan} {s : State} {o k b : Nat} {n : Int}
theorem keptAt_kept {l : List Hold} (hl : holdsOk l = true) (o ln : Int) (b : Nat) : keptAt l o ln b ≤ kept l o ln := by
  by_cases hb : b < 6
  · rw [kept_bins hl]
    have h0 : ∀ i, i < 6 → 0 ≤ keptAt l o ln i := fun i _ => kept_pos hl _ _ _
    have : ∀ m, b < m → m ≤ 6 → keptAt l o ln b ≤ sumTo (fun i => keptAt l o ln i) m := by
      intro m
      induction m with
      | zero => intro h; omega
      | succ m ih =>
        intro h h6
        have hs : ∀ q, q ≤ 6 → 0 ≤ sumTo (fun i => keptAt l o ln i) q := by
          intro q
          induction q with
          | zero => intro _; exact Int.le_refl _
          | succ q ih => intro hq; have := ih (by omega); have := h0 q (by omega); show 0 ≤ sumTo (fun i => keptAt l o ln i) q + keptAt l o ln q; omega
        show _ ≤ sumTo _ m + keptAt l o ln m
        by_cases e : b = m
        · subst e
          have := hs b (by omega)
          omega
        · have := ih (by omega) (by omega)
          have := h0 m (by omega)
          omega
    exact this 6 hb (by omega)
  · have h1 := kept_range hl o ln
    by_cases h0 : keptAt l o ln b = 0
    · rw [h0]; exact h1.1
    · have := (keptAt_key (holdsOk_iff.1 hl).1 (holdsOk_iff.1 hl).2 h0).1
      unfold keyOk at this
      omega
-- closing
end
section
variable {p : Plan} {s : State} {o k b n : Int}
end
end Wh
namespace Wh

def mvC (b g : Int) : Cutter Move := ⟨fun x => decide (x.src = b) && decide (x.good = g), (·.n), fun x n => { x with n := n }, fun _ _ => rfl, fun _ _ => rfl, fun _ _ _ => rfl, fun _ => rfl⟩
def hdC (s : State) (b g : Int) : Cutter Hold := ⟨fun x => decide (x.bin = b) && decide ((s.line x.order.toNat x.line.toNat).good = g), (·.n), fun x n => { x with n := n }, fun _ _ => rfl, fun _ _ => rfl, fun _ _ _ => rfl, fun _ => rfl⟩
theorem mv_is {b g : Int} {x : Move} : (mvC b g).is x = true ↔ x.src = b ∧ x.good = g := by simp [mvC]
theorem hd_is {s : State} {b g : Int} {x : Hold} : (hdC s b g).is x = true ↔ x.bin = b ∧ (s.line x.order.toNat x.line.toNat).good = g := by simp [hdC]
theorem mv_part (b g : Int) (x : Move) : (mvC b g).part x = fromN b g x := by
  unfold Cutter.part fromN
  by_cases h : x.src = b ∧ x.good = g
  · rw [if_pos h, if_pos (mv_is.2 h)]; rfl
  · rw [if_neg h, if_neg (fun hh => h (mv_is.1 hh))]
theorem hd_part (s : State) (b g : Int) (x : Hold) : (hdC s b g).part x = heldN s b g x := by
  unfold Cutter.part heldN
  by_cases h : x.bin = b ∧ (s.line x.order.toNat x.line.toNat).good = g
  · rw [if_pos h, if_pos (hd_is.2 h)]; rfl
  · rw [if_neg h, if_neg (fun hh => h (hd_is.1 hh))]
theorem mv_all (b g : Int) (l : List Move) : (mvC b g).all l = goingOf l b g := by
  unfold Cutter.all goingOf
  congr 1
  exact List.map_congr_left fun x _ => mv_part b g x
theorem hd_all (s : State) (b g : Int) (l : List Hold) : (hdC s b g).all l = (l.map (heldN s b g)).sum := by
  unfold Cutter.all
  congr 1
  exact List.map_congr_left fun x _ => hd_part s b g x

namespace Cutter
variable {α β : Type} {C : Cutter α}
theorem cut_map (f : α → β) (hf : ∀ x n, f (C.put x n) = f x) (l : List α) (v : Int) : (C.cut l v).1.map f = l.map f := by
  induction l with
  | nil => rfl
  | cons x r ih =>
    cases hx : C.is x
    · rw [cut_not hx, List.map_cons, ih, List.map_cons]
    · rw [cut_is hx, List.map_cons, ih, List.map_cons, hf]
theorem cut_sum (F : α → Int) (hF : ∀ x n, C.is x = true → F (C.put x n) = F x) (l : List α) (v : Int) : ((C.cut l v).1.map F).sum = (l.map F).sum := by
  induction l with
  | nil => rfl
  | cons x r ih =>
    cases hx : C.is x
    · rw [cut_not hx, List.map_cons, List.sum_cons, ih, List.map_cons, List.sum_cons]
    · rw [cut_is hx, List.map_cons, List.sum_cons, ih, List.map_cons, List.sum_cons, hF x _ hx]
theorem rest_sum (F : α → Int) (hF : ∀ x n, C.is x = true → F (C.put x n) = F x) (h0 : ∀ x, C.num x = 0 → F x = 0) (l : List α) (v : Int) : ((C.rest l v).map F).sum = (l.map F).sum := by
  rw [← cut_sum F hF l v]
  unfold rest
  generalize (C.cut l v).1 = m
  induction m with
  | nil => rfl
  | cons x r ih =>
    rw [List.filter_cons]
    split
    · rw [List.map_cons, List.sum_cons, ih, List.map_cons, List.sum_cons]
    · rename_i hk
      have : C.num x = 0 := by unfold keep at hk; simpa using hk
      rw [ih, List.map_cons, List.sum_cons, h0 x this]
      omega
/-- Who may not be cut stays. -/
theorem rest_stays {l : List α} (h : C.Pos l) (v : Int) {x : α} (hx : x ∈ l) (hi : C.is x = false) : x ∈ C.rest l v := by
  have hn := h x hx
  refine List.mem_filter.2 ⟨?_, by unfold keep; simp; omega⟩
  clear hn
  induction l with
  | nil => simp at hx
  | cons y r ih =>
    rcases List.mem_cons.1 hx with rfl | hx
    · rw [cut_not hi]
      exact List.mem_cons_self ..
    · have := ih h.cons.2 hx
      cases hy : C.is y
      · rw [cut_not hy]; exact List.mem_cons_of_mem _ this
      · rw [cut_is hy]; exact List.mem_cons_of_mem _ this
end Cutter

def cutMv (s : State) (b g v : Int) : List Move := (mvC b g).rest s.moves v
def cutHd (s : State) (b g v : Int) : List Hold := (hdC s b g).rest s.holds (v - goingOf s.moves b g)
/-- How many pieces of a line's hold there are cut. -/
def cutN (s : State) (b g v : Int) (o k : Int) : Int := keptAt s.holds o k b - keptAt (cutHd s b g v) o k b
def cutOrders (s : State) (b g v : Int) : List Order := s.orders.mapIdx fun o x => { x with lines := x.lines.mapIdx fun k y => { y with back := y.back + cutN s b g v o k } }
/-- Seen pieces lie there; v pieces are cut. -/
def cutS (s : State) (b g : Nat) (seen v : Int) : State :=
  { on := setCell s.on b g seen, orders := cutOrders s b g v, holds := cutHd s b g v, moves := cutMv s b g v, inn := s.inn, out := s.out, fixed := s.fixed.set g (intAt s.fixed g + seen - cell s.on b g) }

section
variable {p : Plan} {s : State} {b g : Nat} {seen v : Int}
theorem mv_pos (hs : Sane p s) (b g : Int) : (mvC b g).Pos s.moves := fun x hx => by
  obtain ⟨i, hi, rfl⟩ := List.getElem_of_mem hx
  have := hs.moveAt hi
  rw [moveAt_eq hi] at this
  exact this.2.2.2.2.1
theorem hd_pos (hs : Sane p s) (b g : Int) : (hdC s b g).Pos s.holds := fun x hx => by
  have := (fine_iff.1 ((holdsOk_iff.1 hs.holds).1 x hx)).2.1
  exact this
theorem cutHd_ok (hs : Sane p s) (b g v : Int) : holdsOk (cutHd s b g v) = true := by
  obtain ⟨h1, h2⟩ := holdsOk_iff.1 hs.holds
  refine holdsOk_iff.2 ⟨fun y hy => ?_, ?_⟩
  · obtain ⟨x, hx, e, a, a', _⟩ := Cutter.rest_mem (hd_pos hs b g) _ y hy
    obtain ⟨c1, c2, c3⟩ := fine_iff.1 (h1 x hx)
    change 1 ≤ y.n at a
    change y.n ≤ x.n at a'
    rw [e]
    exact fine_iff.2 ⟨c1, a, by show y.n ≤ 200; omega⟩
  · unfold cutHd Cutter.rest rises
    refine List.Pairwise.filter _ ?_
    have e := Cutter.cut_map (C := hdC s b g) place (fun _ _ => rfl) s.holds (v - goingOf s.moves b g)
    have h3 : (s.holds.map place).Pairwise (· < ·) := List.pairwise_map.2 h2
    rw [← e] at h3
    exact List.pairwise_map.1 h3
theorem cutHd_keptAt (hs : Sane p s) (b g v : Int) (o k b' : Int) : keptAt (cutHd s b g v) o k b' ≤ keptAt s.holds o k b' ∧ (¬ (b' = b ∧ (s.line o.toNat k.toNat).good = g) → keptAt (cutHd s b g v) o k b' = keptAt s.holds o k b') := by
  obtain ⟨h1, h2⟩ := holdsOk_iff.1 hs.holds
  obtain ⟨h3, h4⟩ := holdsOk_iff.1 (cutHd_ok hs b g v)
  have n1 := kept_pos hs.holds o k b'
  have n2 := kept_pos (cutHd_ok hs b g v) o k b'
  have up : keptAt (cutHd s b g v) o k b' ≠ 0 → ∃ x ∈ s.holds, x.order = o ∧ x.line = k ∧ x.bin = b' ∧ keptAt (cutHd s b g v) o k b' ≤ x.n ∧ (¬ (b' = b ∧ (s.line o.toNat k.toNat).good = g) → keptAt (cutHd s b g v) o k b' = x.n) := fun hn => by
    obtain ⟨_, hm⟩ := keptAt_key h3 h4 hn
    obtain ⟨x, hx, e, a, a', hnot⟩ := Cutter.rest_mem (hd_pos hs b g) _ _ hm
    have e' : (⟨o, k, b', keptAt (cutHd s b g v) o k b'⟩ : Hold) = { x with n := keptAt (cutHd s b g v) o k b' } := e
    simp only [Hold.mk.injEq] at e'
    refine ⟨x, hx, e'.1.symm, e'.2.1.symm, e'.2.2.1.symm, a', fun hq => ?_⟩
    have hi : (hdC s b g).is x = false := by
      cases hi : (hdC s b g).is x
      · rfl
      · have := hd_is.1 hi
        rw [← e'.1, ← e'.2.1, ← e'.2.2.1] at this
        exact absurd this hq
    have := hnot hi
    rw [← this]
  constructor
  · by_cases hn : keptAt (cutHd s b g v) o k b' = 0
    · omega
    · obtain ⟨x, hx, e1, e2, e3, hle, _⟩ := up hn
      have := keptAt_mem h1 h2 hx
      rw [e1, e2, e3] at this
      omega
  · intro hq
    by_cases hn : keptAt (cutHd s b g v) o k b' = 0
    · by_cases hm : keptAt s.holds o k b' = 0
      · omega
      · obtain ⟨_, hmem⟩ := keptAt_key h1 h2 hm
        have hi : (hdC s b g).is ⟨o, k, b', keptAt s.holds o k b'⟩ = false := by
          cases hi : (hdC s b g).is ⟨o, k, b', keptAt s.holds o k b'⟩
          · rfl
          · exact absurd (hd_is.1 hi) hq
        have := Cutter.rest_stays (hd_pos hs b g) (v - goingOf s.moves b g) hmem hi
        have := keptAt_mem h3 h4 this
        simp only at this
        omega
    · obtain ⟨x, hx, e1, e2, e3, _, he⟩ := up hn
      have := keptAt_mem h1 h2 hx
      rw [e1, e2, e3] at this
      rw [he hq, this]
theorem cutN_range (hs : Sane p s) (b : Nat) (g v : Int) (o k : Int) : 0 ≤ cutN s b g v o k ∧ cutN s b g v o k ≤ keptAt s.holds o k b ∧ cutN s b g v o k ≤ kept s.holds o k := by
  have h1 := (cutHd_keptAt hs b g v o k b).1
  have h2 := kept_pos (cutHd_ok hs b g v) o k b
  have h3 := keptAt_kept hs.holds o k b
  unfold cutN
  omega
theorem cutHd_kept (hs : Sane p s) {b : Nat} (hb : b < p.bins.length) (g v : Int) (o k : Int) : kept (cutHd s b g v) o k = kept s.holds o k - cutN s b g v o k := by
  rw [kept_bins hs.holds, kept_bins (cutHd_ok hs b g v)]
  have := sumTo_one (f := fun b => keptAt s.holds o k b) (g := fun b' => keptAt (cutHd s b g v) o k b') (n := 6) (i := b) (d := - cutN s b g v o k) (by have := hs.counts; omega) (fun i _ hne => (cutHd_keptAt hs b g v o k i).2 (fun h => hne (by omega))) (by
    show keptAt (cutHd s b g v) o k b = keptAt s.holds o k b + -cutN s b g v o k
    unfold cutN
    omega)
  rw [this]
  omega
theorem cut_order (o : Nat) (ho : o < s.orders.length) : (cutS s b g seen v).order o = { s.order o with lines := (s.order o).lines.mapIdx fun k y => { y with back := y.back + cutN s b g v o k } } := by
  unfold State.order orderAt cutS cutOrders
  simp [List.getD, ho]
theorem cut_len : (cutS s b g seen v).orders.length = s.orders.length := by simp [cutS, cutOrders]
theorem cut_lines (o : Nat) (ho : o < s.orders.length) : ((cutS s b g seen v).order o).lines.length = (s.order o).lines.length := by rw [cut_order o ho]; simp
theorem cut_kind (o : Nat) (ho : o < s.orders.length) : ((cutS s b g seen v).order o).kind = (s.order o).kind := by rw [cut_order o ho]
theorem cut_line {o k : Nat} (ho : o < s.orders.length) (hk : k < (s.order o).lines.length) : (cutS s b g seen v).line o k = { s.line o k with back := (s.line o k).back + cutN s b g v o k } := by
  unfold State.line
  rw [cut_order o ho, lineAt_eq (by simpa using hk), lineAt_eq hk]
  simp
theorem cut_heldIn (hs : Sane p s) (b' g' : Int) : heldIn (cutS s b g seen v) b' g' = ((cutHd s b g v).map (heldN s b' g')).sum := by
  unfold heldIn
  congr 1
  apply List.map_congr_left
  intro x hx
  obtain ⟨y, hy, e, _, _, _⟩ := Cutter.rest_mem (hd_pos hs b g) _ x hx
  have e' : x = { y with n := x.n } := e
  obtain ⟨i, hi, rfl⟩ := List.getElem_of_mem hy
  have h2 := hs.holdAt hi
  rw [hold_get hi] at h2
  unfold heldN
  rw [e']
  simp only
  rw [cut_line (by omega) (by omega)]
theorem cut_bound_same (hs : Sane p s) (hv : 0 ≤ v) (hv2 : v ≤ bound s b g) : bound (cutS s b g seen v) b g = bound s b g - v := by
  have h1 : goingOf (cutS s b g seen v).moves b g = _ := (mv_all b g _).symm.trans (Cutter.rest_all (mv_pos hs b g) v)
  rw [mv_all] at h1
  have h2 := cut_heldIn (b := b) (g := g) (seen := seen) (v := v) hs b g
  have h3 := Cutter.rest_all (hd_pos hs b g) (v - goingOf s.moves b g)
  rw [hd_all, hd_all] at h3
  change ((cutHd s b g v).map (heldN s b g)).sum = heldIn s b g - min (max (v - goingOf s.moves b g) 0) (heldIn s b g) at h3
  rw [h3] at h2
  have h4 := goingOf_nonneg hs b g
  have h5 := heldTo_range hs b g s.holds.length
  rw [heldTo_all] at h5
  unfold bound at hv2 ⊢
  rw [h1, h2]
  omega
theorem cut_bound_other (hs : Sane p s) {b' g' : Int} (hne : ¬ (b' = b ∧ g' = g)) : bound (cutS s b g seen v) b' g' = bound s b' g' := by
  have h1 : goingOf (cutS s b g seen v).moves b' g' = goingOf s.moves b' g' := Cutter.rest_sum (C := mvC b g) (fromN b' g') (fun x n hx => by
    have := mv_is.1 hx
    unfold fromN
    rw [if_neg (by show ¬ (x.src = b' ∧ x.good = g'); omega), if_neg (by omega)]) (fun x hx => by
    have hx' : x.n = 0 := hx
    unfold fromN
    rw [hx']
    split <;> rfl) s.moves v
  have h2 := cut_heldIn (b := b) (g := g) (seen := seen) (v := v) hs b' g'
  have h3 : ((cutHd s b g v).map (heldN s b' g')).sum = heldIn s b' g' := Cutter.rest_sum (C := hdC s b g) (heldN s b' g') (fun x n hx => by
    have := hd_is.1 hx
    unfold heldN
    rw [if_neg (by show ¬ (x.bin = b' ∧ (s.line x.order.toNat x.line.toNat).good = g'); omega), if_neg (by omega)]) (fun x hx => by
    have hx' : x.n = 0 := hx
    unfold heldN
    rw [hx']
    split <;> rfl) s.holds _
  unfold bound
  rw [h1, h2, h3]

/-- What may be counted. -/
structure Counts (p : Plan) (s : State) (b g : Nat) (seen : Int) : Prop where
  hb : b < p.bins.length
  hg : g < p.sizes.length
  s0 : 0 ≤ seen
  s1 : seen ≤ 200
  f0 : -1048576 ≤ intAt s.fixed g + seen - cell s.on b g
  f1 : intAt s.fixed g + seen - cell s.on b g ≤ 1048576
/-- How many pieces are too many. -/
def over (s : State) (b g : Nat) (seen : Int) : Int := max (bound s b g - seen) 0
theorem cut_check (hc : checkState p s = 0) (f : Counts p s b g seen) : checkState p (cutS s b g seen (over s b g seen)) = 0 := by
  obtain ⟨h, hgot⟩ := check_iff.1 hc
  have hs := h.sane
  have hb0 := bound_range hs b g
  have hs0 := f.s0
  have hov : 0 ≤ over s b g seen ∧ over s b g seen ≤ bound s b g ∧ bound s b g - over s b g seen ≤ seen := by unfold over; omega
  generalize over s b g seen = v at hov
  have hbl : b < s.on.length := by rw [hs.onLen]; exact f.hb
  have hgl : g < (rowAt s.on b).length := by rw [hs.rowLen f.hb]; exact f.hg
  have hfl : g < s.fixed.length := by rw [hs.fixed.1]; exact f.hg
  refine check_iff.2 ⟨Right.of (Sane.of ?_ (by rw [cut_len]; exact hs.orders4) ?_ (fun o ho => ?_) (fun o k ho hk => ?_) (cutHd_ok hs b g v) (fun x hx => ?_) (fun x hx => ?_)
    (formed_iff.1 hs.form).2.2.2.2.1 (formed_iff.1 hs.form).2.2.2.2.2.1 (sumsOk_set (formed_iff.1 hs.form).2.2.2.2.2.2 hfl f.f0 f.f1)) (fun g' hg' => ?_) (fun b' g' hb' hg' => ?_) (fun o k ho hk => ?_), fun o ho => ?_⟩
  · exact checkShelf_zero.2 ⟨hs.plan, setCell_ok (checkShelf_zero.1 hs.shelf).2 ⟨f.s0, f.s1⟩ f.hb f.hg⟩
  · refine Nat.le_trans (Nat.le_trans (List.length_filter_le _ _) ?_) hs.moves8
    rw [Cutter.cut_length]
    exact Nat.le_refl _
  · rw [cut_len] at ho
    rw [cut_lines o ho, cut_kind o ho]
    exact ⟨hs.lines3 ho, hs.kind ho⟩
  · rw [cut_len] at ho
    rw [cut_lines o ho] at hk
    have hl := hs.line ho hk
    have h1 := (h.lineSum ho hk).1
    have h2 := cutN_range hs b g v o k
    have h3 := (kept_range hs.holds o k).1
    rw [cut_line ho hk, lineOk_iff]
    simp only
    refine ⟨hl.1, hl.2.1, hl.2.2.1, ?_⟩
    split at h1 <;> omega
  · obtain ⟨y, hy, e, _, _, _⟩ := Cutter.rest_mem (hd_pos hs b g) _ x hx
    have e' : x = { y with n := x.n } := e
    have h1 := holdIn_iff.1 (List.all_eq_true.1 (formed_iff.1 hs.form).2.2.1 y hy)
    obtain ⟨i, hi, rfl⟩ := List.getElem_of_mem hy
    have h2 := hs.holdAt hi
    rw [hold_get hi] at h2
    rw [e']
    exact holdIn_iff.2 ⟨by rw [cut_len]; exact h1.1, by rw [cut_lines _ (by show (s.holds[i]).order.toNat < _; omega)]; exact h1.2.1, h1.2.2⟩
  · obtain ⟨y, hy, e, a, a', _⟩ := Cutter.rest_mem (mv_pos hs b g) _ x hx
    have e' : x = { y with n := x.n } := e
    have h1 := moveOk_iff.1 (List.all_eq_true.1 (formed_iff.1 hs.form).2.2.2.1 y hy)
    change 1 ≤ x.n at a
    change x.n ≤ y.n at a'
    rw [e']
    exact moveOk_iff.2 ⟨h1.1, h1.2.1, h1.2.2.1, h1.2.2.2.1, a, by show x.n ≤ 200; omega⟩
  · have h1 := h.sum hg'
    have e1 : sumOf (cutS s b g seen v).on g' = _ := sumOf_setCell (n := seen) hbl hgl g'
    have e2 : intAt (cutS s b g seen v).fixed g' = if g' = g then intAt s.fixed g + seen - cell s.on b g else intAt s.fixed g' := intAt_set hfl
    rw [e1, e2]
    show _ = intAt s.inn g' - intAt s.out g' + _
    split
    · rename_i hq
      subst hq
      omega
    · omega
  · have h1 := h.bnd hb' hg'
    have e1 : cell (cutS s b g seen v).on b' g' = if b' = b ∧ g' = g then seen else cell s.on b' g' := cell_setCell hbl hgl
    rw [e1]
    by_cases hq : b' = b ∧ g' = g
    · obtain ⟨rfl, rfl⟩ := hq
      rw [if_pos ⟨rfl, rfl⟩, cut_bound_same hs hov.1 hov.2.1]
      exact hov.2.2
    · rw [if_neg hq, cut_bound_other hs (by omega)]
      exact h1
  · rw [cut_len] at ho
    rw [cut_lines o ho] at hk
    obtain ⟨l1, l2⟩ := h.lineSum ho hk
    have h2 := cutN_range hs b g v o k
    have h3 := (kept_range hs.holds o k).1
    have hl := hs.line ho hk
    refine lineSummed_iff.2 ?_
    have e1 : kept (cutS s b g seen v).holds o k = kept s.holds o k - cutN s b g v o k := cutHd_kept hs f.hb g v o k
    rw [cut_line ho hk, cut_kind o ho, e1]
    simp only
    refine ⟨?_, fun hh => l2 ⟨hh.1, by omega⟩⟩
    split at l1 <;> rename_i hz
    · rw [if_pos hz]; omega
    · rw [if_neg hz]; omega
  · rw [cut_len] at ho
    rw [cut_kind o ho]
    rintro ⟨h1, h2⟩
    refine hgot o ho ⟨h1, allGot_iff.2 fun k hk => ?_⟩
    have h3 := allGot_iff.1 h2 k (by rw [cut_lines o ho]; exact hk)
    have h4 := cut_line (b := b) (g := g) (seen := seen) (v := v) ho hk
    unfold State.line at h4
    rw [h4] at h3
    exact h3
end
end Wh
namespace Wh

/-- t is what comes of s by holding for the lines of S, but not in bin b. -/
structure Took (p : Plan) (b : Nat) (S : Nat → Nat → Prop) (s t : State) : Prop where
  right : Right p t
  on : t.on = s.on
  moves : t.moves = s.moves
  inn : t.inn = s.inn
  out : t.out = s.out
  fixed : t.fixed = s.fixed
  orders : t.orders.length = s.orders.length
  kind : ∀ o, (t.order o).kind = (s.order o).kind
  lines : ∀ o, (t.order o).lines.length = (s.order o).lines.length
  line : ∀ o k, (t.line o k).good = (s.line o k).good ∧ (t.line o k).want = (s.line o k).want ∧ (t.line o k).got = (s.line o k).got
  bnd : ∀ g : Int, bound t b g = bound s b g
  back : ∀ o k, ¬ S o k → (t.line o k).back = (s.line o k).back
namespace Took
variable {p : Plan} {b : Nat} {S S' : Nat → Nat → Prop} {s t u : State}
theorem refl (h : Right p s) : Took p b S s s := ⟨h, rfl, rfl, rfl, rfl, rfl, rfl, fun _ => rfl, fun _ => rfl, fun _ _ => ⟨rfl, rfl, rfl⟩, fun _ => rfl, fun _ _ _ => rfl⟩
theorem mono (h : Took p b S s t) (hS : ∀ o k, S o k → S' o k) : Took p b S' s t := { h with back := fun o k hn => h.back o k fun hs => hn (hS o k hs) }
theorem trans (h : Took p b S s t) (h' : Took p b S' t u) : Took p b (fun o k => S o k ∨ S' o k) s u := by
  refine ⟨h'.right, h'.on.trans h.on, h'.moves.trans h.moves, h'.inn.trans h.inn, h'.out.trans h.out, h'.fixed.trans h.fixed, h'.orders.trans h.orders, fun o => (h'.kind o).trans (h.kind o), fun o => (h'.lines o).trans (h.lines o), fun o k => ?_, fun g => (h'.bnd g).trans (h.bnd g), fun o k hn => ?_⟩
  · obtain ⟨a1, a2, a3⟩ := h.line o k
    obtain ⟨b1, b2, b3⟩ := h'.line o k
    exact ⟨b1.trans a1, b2.trans a2, b3.trans a3⟩
  · exact (h'.back o k fun hs => hn (.inr hs)).trans (h.back o k fun hs => hn (.inl hs))
theorem one {o k : Nat} {n : Int} (h : Right p s) (hm : n = 0 ∨ May s o k n) : Took p b (fun o' k' => o' = o ∧ k' = k) s (takeS p s o k n b).1 := by
  rcases hm with rfl | hm
  · have : takeS p s o k 0 b = (s, 0) := takeGo_zero (by omega)
    rw [this]
    exact refl h
  · obtain ⟨h1, _, _⟩ := takeS_held (but := b) h hm
    exact ⟨h1.right, h1.on, h1.moves, h1.inn, h1.out, h1.fixed, h1.orders, h1.kind, h1.lines, h1.line, fun g => takeS_but h hm g, fun o' k' hn => by rw [h1.back, if_neg hn, Int.sub_zero]⟩
theorem may (h : Took p b S s t) {o k : Nat} {n : Int} (hn : ¬ S o k) (hm : n = 0 ∨ May s o k n) : n = 0 ∨ May t o k n := by
  rcases hm with hm | hm
  · exact .inl hm
  · exact .inr ⟨by rw [h.orders]; exact hm.ho, by rw [h.lines]; exact hm.hk, by rw [h.kind]; exact hm.kind, hm.n0, by rw [h.back o k hn]; exact hm.back⟩
theorem check (h : Took p b S s t) (hs : checkState p s = 0) : checkState p t = 0 := by
  refine check_iff.2 ⟨h.right, fun o ho => ?_⟩
  rw [h.orders] at ho
  have := (check_iff.1 hs).2 o ho
  rw [h.kind]
  rintro ⟨h1, h2⟩
  refine this ⟨h1, allGot_iff.2 fun k hk => ?_⟩
  have h3 := allGot_iff.1 h2 k (by rw [h.lines]; exact hk)
  have h4 := h.line o k
  unfold State.line at h4
  rw [h4.2.1, h4.2.2] at h3
  exact h3
end Took

def cutLinesT (p : Plan) (o : Nat) (b : Int) (n : Nat → Int) : Nat → State → State
  | 0, s => s
  | k + 1, s => (takeS p (cutLinesT p o b n k s) o k (n k) b).1
def cutOrdersT (p : Plan) (b : Int) (n : Nat → Nat → Int) : Nat → State → State
  | 0, s => s
  | o + 1, s => cutLinesT p o b (n o) ((cutOrdersT p b n o s).order o).lines.length (cutOrdersT p b n o s)
def countS (p : Plan) (s : State) (b g : Nat) (seen : Int) : State :=
  cutOrdersT p b (fun o k => cutN s b g (over s b g seen) o k) s.orders.length (cutS s b g seen (over s b g seen))
def count (p : Plan) (s : State) (b g seen : Int) : State × Int :=
  if checkState p s ≠ 0 then (dState, checkState p s)
  else if !(isBin p b && isGood p g && within seen 0 200) then (dState, 3)
  else if !(within (intAt s.fixed g.toNat + seen - cell s.on b.toNat g.toNat) (-1048576) 1048576) then (dState, 2)
  else (countS p s b.toNat g.toNat seen, 0)

section
variable {p : Plan} {s : State} {b g : Nat} {seen v : Int} {n : Nat → Nat → Int}
theorem cutLinesT_took {o : Nat} {n : Nat → Int} (h : Right p s) (hn : ∀ k, k < (s.order o).lines.length → n k = 0 ∨ May s o k (n k)) : ∀ m, m ≤ (s.order o).lines.length → Took p b (fun o' k' => o' = o ∧ k' < m) s (cutLinesT p o b n m s)
  | 0, _ => Took.refl h
  | m + 1, hm => by
    have h1 := cutLinesT_took h hn m (by omega)
    have h2 := Took.one (b := b) h1.right (h1.may (by omega) (hn m (by omega)))
    exact (h1.trans h2).mono fun o' k' hs => by omega
theorem cutOrdersT_took (h : Right p s) (hn : ∀ o k, o < s.orders.length → k < (s.order o).lines.length → n o k = 0 ∨ May s o k (n o k)) : ∀ m, m ≤ s.orders.length → Took p b (fun o' _ => o' < m) s (cutOrdersT p b n m s)
  | 0, _ => Took.refl h
  | m + 1, hm => by
    have h1 := cutOrdersT_took h hn m (by omega)
    have h2 := cutLinesT_took (b := b) (o := m) (n := n m) h1.right (fun k hk => h1.may (by omega) (hn m k (by omega) (by rw [← h1.lines]; exact hk))) _ (Nat.le_refl _)
    exact (h1.trans h2).mono fun o' k' hs => by omega
theorem cut_ready (h : Right p s) {o k : Nat} (ho : o < s.orders.length) (hk : k < (s.order o).lines.length) : cutN s b g v o k = 0 ∨ May (cutS s b g seen v) o k (cutN s b g v o k) := by
  have h1 := cutN_range h.sane b g v o k
  by_cases hz : cutN s b g v o k = 0
  · exact .inl hz
  · have h2 := h.lineSum ho hk
    have h3 := h.sane.line ho hk
    have h4 := h.sane.kind ho
    have h5 : (s.order o).kind ≠ 0 := fun e => by rw [if_pos e] at h2; omega
    have h6 : (s.order o).kind ≠ 2 := fun e => h2.2 ⟨e, by omega⟩
    refine .inr ⟨by rw [cut_len]; exact ho, by rw [cut_lines o ho]; exact hk, by rw [cut_kind o ho]; omega, h1.1, ?_⟩
    rw [cut_line ho hk]
    simp only
    omega
theorem count_took (hc : checkState p s = 0) (f : Counts p s b g seen) : Took p b (fun o _ => o < s.orders.length) (cutS s b g seen (over s b g seen)) (countS p s b g seen) := by
  have h := right_of_check hc
  have hcut := right_of_check (cut_check hc f)
  exact cutOrdersT_took hcut (fun o k ho hk => by
    rw [cut_len] at ho
    rw [cut_lines o ho] at hk
    exact cut_ready h ho hk) _ (by rw [cut_len]; exact Nat.le_refl _)
theorem count_check (hc : checkState p s = 0) (f : Counts p s b g seen) : checkState p (countS p s b g seen) = 0 := (count_took hc f).check (cut_check hc f)
theorem cutHd_zero (hs : Sane p s) : cutHd s b g 0 = s.holds := Cutter.rest_none (hd_pos hs b g) (by have := goingOf_nonneg hs b g; omega)
theorem cutMv_zero (hs : Sane p s) : cutMv s b g 0 = s.moves := Cutter.rest_none (mv_pos hs b g) (by omega)
theorem cutN_zero (hs : Sane p s) (o k : Int) : cutN s b g 0 o k = 0 := by
  unfold cutN
  rw [cutHd_zero hs]
  omega
theorem cutOrders_zero (hs : Sane p s) : cutOrders s b g 0 = s.orders := by
  unfold cutOrders
  apply List.ext_getElem
  · simp
  · intro i h1 h2
    rw [List.getElem_mapIdx]
    have : ((s.orders[i].lines.mapIdx fun k y => { y with back := y.back + cutN s b g 0 i k }) : List Line) = s.orders[i].lines := by
      apply List.ext_getElem
      · simp
      · intro j h3 h4
        rw [List.getElem_mapIdx, cutN_zero hs, Int.add_zero]
    rw [this]
theorem count_right {b g : Int} (h : (count p s b g seen).2 = 0) : checkState p s = 0 ∧ ∃ i j : Nat, b = i ∧ g = j ∧ Counts p s i j seen ∧ (count p s b g seen).1 = countS p s i j seen := by
  unfold count at h ⊢
  by_cases h1 : checkState p s = 0
  · rw [if_neg (fun hn => hn h1)] at h ⊢
    by_cases h2 : (isBin p b && isGood p g && within seen 0 200) = true
    · rw [if_neg (by rw [h2]; simp)] at h ⊢
      by_cases h3 : within (intAt s.fixed g.toNat + seen - cell s.on b.toNat g.toNat) (-1048576) 1048576 = true
      · rw [if_neg (by rw [h3]; simp)]
        simp only [Bool.and_eq_true] at h2
        obtain ⟨i, rfl, hi⟩ := bin_nat h2.1.1
        obtain ⟨j, rfl, hj⟩ := good_nat h2.1.2
        have h4 := within_iff.1 h2.2
        have h5 := within_iff.1 h3
        simp only [Int.toNat_natCast] at h5 ⊢
        exact ⟨h1, i, j, rfl, rfl, ⟨hi, hj, h4.1, h4.2, h5.1, h5.2⟩, rfl⟩
      · rw [if_pos (by simpa using h3)] at h
        simp at h
    · rw [Bool.not_eq_true] at h2
      rw [h2, if_pos (by rfl)] at h
      simp at h
  · rw [if_pos h1] at h
    exact absurd h h1
end
section
variable {p : Plan} {s : State} {b g n : Int}
theorem count_bad (h : checkState p s ≠ 0) : count p s b g n = (dState, checkState p s) := by unfold count; rw [if_pos h]
theorem count_range (h : checkState p s = 0) (h2 : (isBin p b && isGood p g && within n 0 200) = false) : count p s b g n = (dState, 3) := by
  unfold count
  rw [if_neg (fun hn => hn h), h2]
  rfl
theorem count_many {i j : Nat} (h : checkState p s = 0) (hi : i < p.bins.length) (hj : j < p.sizes.length) (hn : 0 ≤ n ∧ n ≤ 200) (h2 : intAt s.fixed j + n - cell s.on i j < -1048576 ∨ 1048576 < intAt s.fixed j + n - cell s.on i j) : count p s i j n = (dState, 2) := by
  have h3 : (isBin p (i : Int) && isGood p (j : Int) && within n 0 200) = true := by rw [isBin_iff.2 (by omega), isGood_iff.2 (by omega), within_iff.2 hn]; rfl
  unfold count
  rw [if_neg (fun hn => hn h), h3, if_neg (by simp)]
  simp only [Int.toNat_natCast]
  rw [within_false.2 h2]
  rfl
theorem count_ok {i j : Nat} (h : checkState p s = 0) (f : Counts p s i j n) : count p s i j n = (countS p s i j n, 0) := by
  have h1 := f.hb
  have h2 := f.hg
  have h3 : (isBin p (i : Int) && isGood p (j : Int) && within n 0 200) = true := by rw [isBin_iff.2 (by omega), isGood_iff.2 (by omega), within_iff.2 ⟨f.s0, f.s1⟩]; rfl
  unfold count
  rw [if_neg (fun hn => hn h), h3, if_neg (by simp)]
  simp only [Int.toNat_natCast]
  rw [within_iff.2 ⟨f.f0, f.f1⟩]
  rfl
end
end Wh
namespace Wh
open Go Go.RowKit Go.Shelf Go.Proofs
attribute [local go_sem] run_indexAt_letter evL_tmp evL_const evL_func

def lastMvTo (l : List Move) (b g : Int) : Nat → Int
  | 0 => -1
  | k + 1 => if (moveAt l k).src = b ∧ (moveAt l k).good = g then k else lastMvTo l b g k
def lastMv (l : List Move) (b g : Int) : Int := lastMvTo l b g l.length
def lastHdTo (s : State) (b g : Nat) : Nat → Int
  | 0 => -1
  | k + 1 => if (hdC s b g).is (hold s.holds k) = true then k else lastHdTo s b g k
def lastHd (s : State) (b g : Nat) : Int := lastHdTo s b g s.holds.length
theorem lastMvTo_spec (l : List Move) (b g : Int) : ∀ n, (lastMvTo l b g n = -1 ∧ ∀ j, j < n → ¬ ((moveAt l j).src = b ∧ (moveAt l j).good = g)) ∨
    ∃ k : Nat, k < n ∧ lastMvTo l b g n = k ∧ ((moveAt l k).src = b ∧ (moveAt l k).good = g) ∧ ∀ j, k < j → j < n → ¬ ((moveAt l j).src = b ∧ (moveAt l j).good = g)
  | 0 => .inl ⟨rfl, fun j hj => by omega⟩
  | n + 1 => by
    by_cases h : (moveAt l n).src = b ∧ (moveAt l n).good = g
    · exact .inr ⟨n, by omega, if_pos h, h, fun j h1 h2 => by omega⟩
    · have e : lastMvTo l b g (n + 1) = lastMvTo l b g n := if_neg h
      rcases lastMvTo_spec l b g n with ⟨h1, h2⟩ | ⟨k, h1, h2, h3, h4⟩
      · refine .inl ⟨by rw [e, h1], fun j hj => ?_⟩
        by_cases hjn : j = n
        · rw [hjn]; exact h
        · exact h2 j (by omega)
      · refine .inr ⟨k, by omega, by rw [e, h2], h3, fun j hkj hj => ?_⟩
        by_cases hjn : j = n
        · rw [hjn]; exact h
        · exact h4 j hkj (by omega)
theorem lastHdTo_spec (s : State) (b g : Nat) : ∀ n, (lastHdTo s b g n = -1 ∧ ∀ j, j < n → (hdC s b g).is (hold s.holds j) = false) ∨
    ∃ k : Nat, k < n ∧ lastHdTo s b g n = k ∧ (hdC s b g).is (hold s.holds k) = true ∧ ∀ j, k < j → j < n → (hdC s b g).is (hold s.holds j) = false
  | 0 => .inl ⟨rfl, fun j hj => by omega⟩
  | n + 1 => by
    by_cases h : (hdC s b g).is (hold s.holds n) = true
    · exact .inr ⟨n, by omega, if_pos h, h, fun j h1 h2 => by omega⟩
    · have e : lastHdTo s b g (n + 1) = lastHdTo s b g n := if_neg h
      have hf : (hdC s b g).is (hold s.holds n) = false := by simpa using h
      rcases lastHdTo_spec s b g n with ⟨h1, h2⟩ | ⟨k, h1, h2, h3, h4⟩
      · refine .inl ⟨by rw [e, h1], fun j hj => ?_⟩
        by_cases hjn : j = n
        · rw [hjn]; exact hf
        · exact h2 j (by omega)
      · refine .inr ⟨k, by omega, by rw [e, h2], h3, fun j hkj hj => ?_⟩
        by_cases hjn : j = n
        · rw [hjn]; exact hf
        · exact h4 j hkj (by omega)

set_option maxHeartbeats 8000000 in
set_option maxRecDepth 100000 in
theorem rLastMove (w : World) (vs : Value) (p : Plan) (s : State) (b g : Int) (hv : StateV w w.heap.size vs s) (hs : Sane p s) :
    Calls Tryz.prog 71 #[vs, .int .i64 b, .int .i64 g] w fun e w' => e = .returned (.int .i64 (lastMv s.moves b g)) ∧ Below w.heap.size w w' := by
  have h8 := hs.moves8
  obtain ⟨A0, c0, A1, c1, A2, c2, A3, c3, A4, c4, A5, c5, A6, c6, rfl, hV, hN, hO, hH, hM, hI, hU, hX, hl0, hl1, hl2, hl3, hl4, hl5, hl6⟩ := openOne hv
  go_enter Tryz.func71, Tryz.ntmps71
  go_wp2_with fail
  obtain ⟨W0, hW0, hb0, hsz0, hsz1, hsE, hK⟩ := boxesOne w s A0 c0 A1 c1 A2 c2 A3 c3 A4 c4 A5 c5 A6 c6
  rw [hW0]
  clear hW0
  obtain ⟨⟨y0, y1⟩, x0, x1, x2, x3, x4, x5, x6, hbz0, hbz1⟩ := hK.out W0 (Below.refl W0.heap.size W0)
  go_wp2_with fail
  clear y0 y1 x0 x1 x2 x3 x4 x5 x6 hbz0 hbz1
  go_loopw [7] (fun i wr => ∃ k : Nat, k ≤ s.moves.length ∧ i = .int .i64 ((k : Int) - 1) ∧ lastMv s.moves b g = lastMvTo s.moves b g k ∧ Below W0.heap.size W0 wr) (fun i _ => (RowKit.intOf i + 1).toNat)
  case atStart => exact ⟨s.moves.length, Nat.le_refl _, rfl, rfl, Below.refl _ _⟩
  case round =>
    obtain ⟨k, hk, rfl, hl, h0r⟩ := hrel
    have hBr := hb0.trans (h0r.mono hb0.size)
    have hl' := Lib.hid hl
    clear hl
    obtain ⟨⟨y0, y1⟩, x0, x1, x2, x3, x4, x5, x6, hbz0, hbz1⟩ := hK.out wr (h0r)
    rcases k with _ | m
    · go_wp2_with fail
      go_ret
      exact ⟨by rw [hl'.out]; rfl, hBr⟩
    · have e1 : (((m + 1 : Nat) : Int) - 1) = (m : Int) := by omega
      rw [e1]
      have hm : m < s.moves.length := by omega
      have hmi : (m : Int) < (s.moves.length : Int) := by omega
      obtain ⟨okm, lm, f0, f1, f2, f3⟩ := (hM.out wr hBr).at_.move hm
      by_cases h1 : (moveAt s.moves m).src = b
      · by_cases h2 : (moveAt s.moves m).good = g
        · have t1 : ((moveAt s.moves m).src == b) = true := by simpa using h1
          have t2 : ((moveAt s.moves m).good == g) = true := by simpa using h2
          have hx := Lib.hid (show lastMv s.moves b g = (m : Int) by rw [hl'.out]; exact if_pos ⟨h1, h2⟩)
          clear h1 h2
          go_wp2_with fail
          go_ret
          exact ⟨by rw [hx.out]; rfl, hBr⟩
        · have t1 : ((moveAt s.moves m).src == b) = true := by simpa using h1
          have t2 : ((moveAt s.moves m).good == g) = false := by simpa using h2
          have hx := Lib.hid (show lastMv s.moves b g = lastMvTo s.moves b g m by rw [hl'.out]; exact if_neg (fun h => h2 h.2))
          clear h1 h2
          go_wp2_with fail
          clear y0 y1 x0 x1 x2 x3 x4 x5 x6 hbz0 hbz1
          go_roundw
          case rel => exact ⟨m, by omega, by go_num, hx.out, h0r⟩
          case measure => simp [RowKit.intOf]
      · have t1 : ((moveAt s.moves m).src == b) = false := by simpa using h1
        have hx := Lib.hid (show lastMv s.moves b g = lastMvTo s.moves b g m by rw [hl'.out]; exact if_neg (fun h => h1 h.1))
        clear h1
        go_wp2_with fail
        clear y0 y1 x0 x1 x2 x3 x4 x5 x6 hbz0 hbz1
        go_roundw
        case rel => exact ⟨m, by omega, by go_num, hx.out, h0r⟩
        case measure => simp [RowKit.intOf]

set_option maxHeartbeats 8000000 in
set_option maxRecDepth 100000 in
theorem rLastHold (w : World) (vs : Value) (p : Plan) (s : State) (b g : Nat) (hv : StateV w w.heap.size vs s) (hs : Sane p s) :
    Calls Tryz.prog 72 #[vs, .int .i64 b, .int .i64 g] w fun e w' => e = .returned (.int .i64 (lastHd s b g)) ∧ Below w.heap.size w w' := by
  have hs' := Lib.hid hs
  obtain ⟨A0, c0, A1, c1, A2, c2, A3, c3, A4, c4, A5, c5, A6, c6, rfl, hV, hN, hO, hH, hM, hI, hU, hX, hl0, hl1, hl2, hl3, hl4, hl5, hl6⟩ := openOne hv
  go_enter Tryz.func72, Tryz.ntmps72
  go_wp2_with fail
  obtain ⟨W0, hW0, hb0, hsz0, hsz1, hsE, hK⟩ := boxesOne w s A0 c0 A1 c1 A2 c2 A3 c3 A4 c4 A5 c5 A6 c6
  rw [hW0]
  clear hW0
  obtain ⟨⟨y0, y1⟩, x0, x1, x2, x3, x4, x5, x6, hbz0, hbz1⟩ := hK.out W0 (Below.refl W0.heap.size W0)
  go_wp2_with fail
  clear y0 y1 x0 x1 x2 x3 x4 x5 x6 hbz0 hbz1
  clear hs
  go_loopw [7, 8] (fun i _ wr => ∃ k : Nat, k ≤ s.holds.length ∧ i = .int .i64 ((k : Int) - 1) ∧ lastHd s b g = lastHdTo s b g k ∧ Below W0.heap.size W0 wr) (fun i _ _ => (RowKit.intOf i + 1).toNat)
  case atStart => exact ⟨s.holds.length, Nat.le_refl _, rfl, rfl, Below.refl _ _⟩
  case round =>
    obtain ⟨k, hk, rfl, hl, h0r⟩ := hrel
    have hBr := hb0.trans (h0r.mono hb0.size)
    have hl' := Lib.hid hl
    clear hl
    obtain ⟨⟨y0, y1⟩, x0, x1, x2, x3, x4, x5, x6, hbz0, hbz1⟩ := hK.out wr (h0r)
    rcases k with _ | m
    · go_wp2_with fail
      go_ret
      exact ⟨by rw [hl'.out]; rfl, hBr⟩
    · have e1 : (((m + 1 : Nat) : Int) - 1) = (m : Int) := by omega
      rw [e1]
      have hm : m < s.holds.length := by omega
      have hmi : (m : Int) < (s.holds.length : Int) := by omega
      obtain ⟨okm, lm, f0, f1, f2, f3⟩ := (hH.out wr hBr).at_.hold hm
      have hat := hs'.out.holdAt hm
      obtain ⟨o, eo⟩ : ∃ o : Nat, (hold s.holds m).order = o := ⟨(hold s.holds m).order.toNat, by omega⟩
      obtain ⟨l, el⟩ : ∃ l : Nat, (hold s.holds m).line = l := ⟨(hold s.holds m).line.toNat, by omega⟩
      have his := hd_is (s := s) (b := (b : Int)) (g := (g : Int)) (x := hold s.holds m)
      rw [eo, el] at his hat
      simp only [Int.toNat_natCast] at his hat
      have ho : o < s.orders.length := by omega
      have hlo : l < (s.order o).lines.length := by omega
      have hoi : (o : Int) < (s.orders.length : Int) := by omega
      have hloi : (l : Int) < ((orderAt s.orders o).lines.length : Int) := by show (l : Int) < ((s.order o).lines.length : Int); omega
      have his' := Lib.hid his
      rw [eo] at f0
      rw [el] at f1
      clear his hat eo el
      generalize (hold s.holds m).bin = bn at f2 his'
      generalize (hold s.holds m).n = n at f3
      have hpt : lastHdTo s b g (m + 1) = if (hdC s b g).is (hold s.holds m) = true then (m : Int) else lastHdTo s b g m := rfl
      have hpt' := Lib.hid hpt
      clear hpt
      have h2a := h0r.alloc h0r.size (.cells #[.int .i64 o, .int .i64 l, .int .i64 bn, .int .i64 n] 46)
      have hbl := Lib.hid (Blk.new wr 46 #[.int .i64 o, .int .i64 l, .int .i64 bn, .int .i64 n])
      go_wp2_with fail
      clear y0 y1 x0 x1 x2 x3 x4 x5 x6 hbz0 hbz1
      clear f0 f1 f2 f3 okm lm
      generalize wr.alloc (.cells #[.int .i64 o, .int .i64 l, .int .i64 bn, .int .i64 n] 46) = W4 at h2a hbl ⊢
      generalize wr.heap.size = hx at hbl ⊢
      have hB4 := hb0.trans (h2a.mono hb0.size)
      obtain ⟨Al, cl, ol, ll, d0, d1, hsl⟩ := (hO.out W4 hB4).order ho
      obtain ⟨ok2, l2, e0, e1', e2, e3⟩ := hsl.at_.line hlo
      change W4.cell? _ = some (.int .i64 (s.line o l).good) at e0
      have x0' := hbl.out.cell (j := 0) rfl
      have x1' := hbl.out.cell (j := 1) rfl
      have x2' := hbl.out.cell (j := 2) rfl
      have x3' := hbl.out.cell (j := 3) rfl
      have tx := hbl.out.lt
      obtain ⟨⟨y0, y1⟩, x0, x1, x2, x3, x4, x5, x6, hbz0, hbz1⟩ := hK.out W4 (h2a)
      by_cases h1 : bn = (b : Int)
      · by_cases h2 : (s.line o l).good = (g : Int)
        · have t1 : (bn == (b : Int)) = true := by simpa using h1
          have t2 : ((s.line o l).good == (g : Int)) = true := by simpa using h2
          have hr := Lib.hid (show lastHd s b g = (m : Int) by rw [hl'.out, hpt'.out, if_pos (his'.out.2 ⟨h1, h2⟩)])
          clear h1 h2
          go_wp2_with fail
          go_quiet (fail)
          have h4q := below_drewN hB4 nq
          go_wp2_with fail
          go_ret
          exact ⟨by rw [hr.out]; rfl, h4q⟩
        · have t1 : (bn == (b : Int)) = true := by simpa using h1
          have t2 : ((s.line o l).good == (g : Int)) = false := by simpa using h2
          have hr := Lib.hid (show lastHd s b g = lastHdTo s b g m by rw [hl'.out, hpt'.out, if_neg (fun h => h2 (his'.out.1 h).2)])
          clear h1 h2
          go_wp2_with fail
          go_quiet (fail)
          have h4q := below_drewN h2a nq
          go_wp2_with fail
          clear y0 y1 x0 x1 x2 x3 x4 x5 x6 hbz0 hbz1
          clear d0 d1 e0 e1' e2 e3 x0' x1' x2' x3' ol ll ok2 l2 hsl
          go_roundw
          case rel => exact ⟨m, by omega, by go_num, hr.out, h4q⟩
          case measure => simp [RowKit.intOf]
      · have t1 : (bn == (b : Int)) = false := by simpa using h1
        have hr := Lib.hid (show lastHd s b g = lastHdTo s b g m by rw [hl'.out, hpt'.out, if_neg (fun h => h1 (his'.out.1 h).1)])
        clear h1
        go_wp2_with fail
        go_quiet (fail)
        have h4q := below_drewN h2a nq
        go_wp2_with fail
        clear y0 y1 x0 x1 x2 x3 x4 x5 x6 hbz0 hbz1
        clear d0 d1 e0 e1' e2 e3 x0' x1' x2' x3' ol ll ok2 l2 hsl
        go_roundw
        case rel => exact ⟨m, by omega, by go_num, hr.out, h4q⟩
        case measure => simp [RowKit.intOf]
end Wh
