/- Texts of the claim, joined: PlainO, PlainP, CountA, RangeMem, CountB. -/
import Derived.RangeFuncBox
import Derived.RangeFuncCalls
import Derived.RangeFuncNested
import Derived.Test.YtfhfkijmebhgmaaGreatQ26
import Derived.Test.YtfhfkijmebhgmaaGreatQ22
import Derived.Test.YtfhfkijmebhgmaaGreatQ18
import Derived.Test.YtfhfkijmebhgmaaGreatQ01
import Derived.Test.YtfhfkijmebhgmaaGreatQ07
import Derived.Test.YtfhfkijmebhgmaaGreatQ17
import Derived.Test.YtfhfkijmebhgmaaGreatQ08
namespace Wh

def mvC (b g : Int) : Cutter Move := ⟨fun x => decide (x.src = b) && decide (x.good = g), (·.n), fun x n => { x with n := n }, fun _ _ => rfl, fun _ _ => rfl, fun _ _ _ => rfl, fun _ => rfl⟩
def hdC (s : State) (b g : Int) : Cutter Hold := ⟨fun x => decide (x.bin = b) && decide ((s.line x.order.toNat x.line.toNat).good = g), (·.n), fun x n => { x with n := n }, fun _ _ => rfl, fun _ _ => rfl, fun _ _ _ => rfl, fun _ => rfl⟩
theorem mv_is {b g : Int} {x : Move} : (mvC b g).is x = true ↔ x.src = b ∧ x.good = g := by simp [mvC]
theorem hd_is {s : State} {b g : Int} {x : Hold} : (hdC s b g).is x = true ↔ x.bin = b ∧ (s.line x.order.toNat x.line.toNat).good = g := by simp [hdC]
theorem mv_part (b g : Int) (x : Move) : (mvC b g).part x = fromN b g x := by
  unfold Cutter.part fromN
  by_cases h : x.src = b ∧ x.good = g
  · rw [if_pos h, if_pos (mv_is.2 h)]; rfl
  · rw [if_neg h, if_neg (fun hh => h (mv_is.1 hh))]
theorem hd_part (s : State) (b g : Int) (x : Hold) : (hdC s b g).part x = heldN s b g x := by
  unfold Cutter.part heldN
  by_cases h : x.bin = b ∧ (s.line x.order.toNat x.line.toNat).good = g
  · rw [if_pos h, if_pos (hd_is.2 h)]; rfl
  · rw [if_neg h, if_neg (fun hh => h (hd_is.1 hh))]
theorem mv_all (b g : Int) (l : List Move) : (mvC b g).all l = goingOf l b g := by
  unfold Cutter.all goingOf
  congr 1
  exact List.map_congr_left fun x _ => mv_part b g x
theorem hd_all (s : State) (b g : Int) (l : List Hold) : (hdC s b g).all l = (l.map (heldN s b g)).sum := by
  unfold Cutter.all
  congr 1
  exact List.map_congr_left fun x _ => hd_part s b g x

namespace Cutter
variable {α β : Type} {C : Cutter α}
theorem cut_map (f : α → β) (hf : ∀ x n, f (C.put x n) = f x) (l : List α) (v : Int) : (C.cut l v).1.map f = l.map f := by
  induction l with
  | nil => rfl
  | cons x r ih =>
    cases hx : C.is x
    · rw [cut_not hx, List.map_cons, ih, List.map_cons]
    · rw [cut_is hx, List.map_cons, ih, List.map_cons, hf]
theorem cut_sum (F : α → Int) (hF : ∀ x n, C.is x = true → F (C.put x n) = F x) (l : List α) (v : Int) : ((C.cut l v).1.map F).sum = (l.map F).sum := by
  induction l with
  | nil => rfl
  | cons x r ih =>
    cases hx : C.is x
    · rw [cut_not hx, List.map_cons, List.sum_cons, ih, List.map_cons, List.sum_cons]
    · rw [cut_is hx, List.map_cons, List.sum_cons, ih, List.map_cons, List.sum_cons, hF x _ hx]
theorem rest_sum (F : α → Int) (hF : ∀ x n, C.is x = true → F (C.put x n) = F x) (h0 : ∀ x, C.num x = 0 → F x = 0) (l : List α) (v : Int) : ((C.rest l v).map F).sum = (l.map F).sum := by
  rw [← cut_sum F hF l v]
  unfold rest
  generalize (C.cut l v).1 = m
  induction m with
  | nil => rfl
  | cons x r ih =>
    rw [List.filter_cons]
    split
    · rw [List.map_cons, List.sum_cons, ih, List.map_cons, List.sum_cons]
    · rename_i hk
      have : C.num x = 0 := by unfold keep at hk; simpa using hk
      rw [ih, List.map_cons, List.sum_cons, h0 x this]
      omega
/-- Who may not be cut stays. -/
theorem rest_stays {l : List α} (h : C.Pos l) (v : Int) {x : α} (hx : x ∈ l) (hi : C.is x = false) : x ∈ C.rest l v := by
  have hn := h x hx
  refine List.mem_filter.2 ⟨?_, by unfold keep; simp; omega⟩
  clear hn
  induction l with
  | nil => simp at hx
  | cons y r ih =>
    rcases List.mem_cons.1 hx with rfl | hx
    · rw [cut_not hi]
      exact List.mem_cons_self ..
    · have := ih h.cons.2 hx
      cases hy : C.is y
      · rw [cut_not hy]; exact List.mem_cons_of_mem _ this
      · rw [cut_is hy]; exact List.mem_cons_of_mem _ this
end Cutter

def cutMv (s : State) (b g v : Int) : List Move := (mvC b g).rest s.moves v
def cutHd (s : State) (b g v : Int) : List Hold := (hdC s b g).rest s.holds (v - goingOf s.moves b g)
/-- How many pieces of a line's hold there are cut. -/
def cutN (s : State) (b g v : Int) (o k : Int) : Int := keptAt s.holds o k b - keptAt (cutHd s b g v) o k b
def cutOrders (s : State) (b g v : Int) : List Order := s.orders.mapIdx fun o x => { x with lines := x.lines.mapIdx fun k y => { y with back := y.back + cutN s b g v o k } }
/-- Seen pieces lie there; v pieces are cut. -/
def cutS (s : State) (b g : Nat) (seen v : Int) : State :=
  { on := setCell s.on b g seen, orders := cutOrders s b g v, holds := cutHd s b g v, moves := cutMv s b g v, inn := s.inn, out := s.out, fixed := s.fixed.set g (intAt s.fixed g + seen - cell s.on b g) }

section
variable {p : Plan} {s : State} {b g : Nat} {seen v : Int}
theorem mv_pos (hs : Sane p s) (b g : Int) : (mvC b g).Pos s.moves := fun x hx => by
  obtain ⟨i, hi, rfl⟩ := List.getElem_of_mem hx
  have := hs.moveAt hi
  rw [moveAt_eq hi] at this
  exact this.2.2.2.2.1
theorem hd_pos (hs : Sane p s) (b g : Int) : (hdC s b g).Pos s.holds := fun x hx => by
  have := (fine_iff.1 ((holdsOk_iff.1 hs.holds).1 x hx)).2.1
  exact this
theorem cutHd_ok (hs : Sane p s) (b g v : Int) : holdsOk (cutHd s b g v) = true := by
  obtain ⟨h1, h2⟩ := holdsOk_iff.1 hs.holds
  refine holdsOk_iff.2 ⟨fun y hy => ?_, ?_⟩
  · obtain ⟨x, hx, e, a, a', _⟩ := Cutter.rest_mem (hd_pos hs b g) _ y hy
    obtain ⟨c1, c2, c3⟩ := fine_iff.1 (h1 x hx)
    change 1 ≤ y.n at a
    change y.n ≤ x.n at a'
    rw [e]
    exact fine_iff.2 ⟨c1, a, by show y.n ≤ 200; omega⟩
  · unfold cutHd Cutter.rest rises
    refine List.Pairwise.filter _ ?_
    have e := Cutter.cut_map (C := hdC s b g) place (fun _ _ => rfl) s.holds (v - goingOf s.moves b g)
    have h3 : (s.holds.map place).Pairwise (· < ·) := List.pairwise_map.2 h2
    rw [← e] at h3
    exact List.pairwise_map.1 h3
theorem cutHd_keptAt (hs : Sane p s) (b g v : Int) (o k b' : Int) : keptAt (cutHd s b g v) o k b' ≤ keptAt s.holds o k b' ∧ (¬ (b' = b ∧ (s.line o.toNat k.toNat).good = g) → keptAt (cutHd s b g v) o k b' = keptAt s.holds o k b') := by
  obtain ⟨h1, h2⟩ := holdsOk_iff.1 hs.holds
  obtain ⟨h3, h4⟩ := holdsOk_iff.1 (cutHd_ok hs b g v)
  have n1 := kept_pos hs.holds o k b'
  have n2 := kept_pos (cutHd_ok hs b g v) o k b'
  have up : keptAt (cutHd s b g v) o k b' ≠ 0 → ∃ x ∈ s.holds, x.order = o ∧ x.line = k ∧ x.bin = b' ∧ keptAt (cutHd s b g v) o k b' ≤ x.n ∧ (¬ (b' = b ∧ (s.line o.toNat k.toNat).good = g) → keptAt (cutHd s b g v) o k b' = x.n) := fun hn => by
    obtain ⟨_, hm⟩ := keptAt_key h3 h4 hn
    obtain ⟨x, hx, e, a, a', hnot⟩ := Cutter.rest_mem (hd_pos hs b g) _ _ hm
    have e' : (⟨o, k, b', keptAt (cutHd s b g v) o k b'⟩ : Hold) = { x with n := keptAt (cutHd s b g v) o k b' } := e
    simp only [Hold.mk.injEq] at e'
    refine ⟨x, hx, e'.1.symm, e'.2.1.symm, e'.2.2.1.symm, a', fun hq => ?_⟩
    have hi : (hdC s b g).is x = false := by
      cases hi : (hdC s b g).is x
      · rfl
      · have := hd_is.1 hi
        rw [← e'.1, ← e'.2.1, ← e'.2.2.1] at this
        exact absurd this hq
    have := hnot hi
    rw [← this]
  constructor
  · by_cases hn : keptAt (cutHd s b g v) o k b' = 0
    · omega
    · obtain ⟨x, hx, e1, e2, e3, hle, _⟩ := up hn
      have := keptAt_mem h1 h2 hx
      rw [e1, e2, e3] at this
      omega
  · intro hq
    by_cases hn : keptAt (cutHd s b g v) o k b' = 0
    · by_cases hm : keptAt s.holds o k b' = 0
      · omega
      · obtain ⟨_, hmem⟩ := keptAt_key h1 h2 hm
        have hi : (hdC s b g).is ⟨o, k, b', keptAt s.holds o k b'⟩ = false := by
          cases hi : (hdC s b g).is ⟨o, k, b', keptAt s.holds o k b'⟩
          · rfl
          · exact absurd (hd_is.1 hi) hq
        have := Cutter.rest_stays (hd_pos hs b g) (v - goingOf s.moves b g) hmem hi
        have := keptAt_mem h3 h4 this
        simp only at this
        omega
    · obtain ⟨x, hx, e1, e2, e3, _, he⟩ := up hn
      have := keptAt_mem h1 h2 hx
      rw [e1, e2, e3] at this
      rw [he hq, this]
theorem cutN_range (hs : Sane p s) (b : Nat) (g v : Int) (o k : Int) : 0 ≤ cutN s b g v o k ∧ cutN s b g v o k ≤ keptAt s.holds o k b ∧ cutN s b g v o k ≤ kept s.holds o k := by
  have h1 := (cutHd_keptAt hs b g v o k b).1
  have h2 := kept_pos (cutHd_ok hs b g v) o k b
  have h3 := keptAt_kept hs.holds o k b
  unfold cutN
  omega
theorem cutHd_kept (hs : Sane p s) {b : Nat} (hb : b < p.bins.length) (g v : Int) (o k : Int) : kept (cutHd s b g v) o k = kept s.holds o k - cutN s b g v o k := by
  rw [kept_bins hs.holds, kept_bins (cutHd_ok hs b g v)]
  have := sumTo_one (f := fun b => keptAt s.holds o k b) (g := fun b' => keptAt (cutHd s b g v) o k b') (n := 6) (i := b) (d := - cutN s b g v o k) (by have := hs.counts; omega) (fun i _ hne => (cutHd_keptAt hs b g v o k i).2 (fun h => hne (by omega))) (by
    show keptAt (cutHd s b g v) o k b = keptAt s.holds o k b + -cutN s b g v o k
    unfold cutN
    omega)
  rw [this]
  omega
theorem cut_order (o : Nat) (ho : o < s.orders.length) : (cutS s b g seen v).order o = { s.order o with lines := (s.order o).lines.mapIdx fun k y => { y with back := y.back + cutN s b g v o k } } := by
  unfold State.order orderAt cutS cutOrders
  simp [List.getD, ho]
theorem cut_len : (cutS s b g seen v).orders.length = s.orders.length := by simp [cutS, cutOrders]
theorem cut_lines (o : Nat) (ho : o < s.orders.length) : ((cutS s b g seen v).order o).lines.length = (s.order o).lines.length := by rw [cut_order o ho]; simp
theorem cut_kind (o : Nat) (ho : o < s.orders.length) : ((cutS s b g seen v).order o).kind = (s.order o).kind := by rw [cut_order o ho]
theorem cut_line {o k : Nat} (ho : o < s.orders.length) (hk : k < (s.order o).lines.length) : (cutS s b g seen v).line o k = { s.line o k with back := (s.line o k).back + cutN s b g v o k } := by
  unfold State.line
  rw [cut_order o ho, lineAt_eq (by simpa using hk), lineAt_eq hk]
  simp
theorem cut_heldIn (hs : Sane p s) (b' g' : Int) : heldIn (cutS s b g seen v) b' g' = ((cutHd s b g v).map (heldN s b' g')).sum := by
  unfold heldIn
  congr 1
  apply List.map_congr_left
  intro x hx
  obtain ⟨y, hy, e, _, _, _⟩ := Cutter.rest_mem (hd_pos hs b g) _ x hx
  have e' : x = { y with n := x.n } := e
  obtain ⟨i, hi, rfl⟩ := List.getElem_of_mem hy
  have h2 := hs.holdAt hi
  rw [hold_get hi] at h2
  unfold heldN
  rw [e']
  simp only
  rw [cut_line (by omega) (by omega)]
theorem cut_bound_same (hs : Sane p s) (hv : 0 ≤ v) (hv2 : v ≤ bound s b g) : bound (cutS s b g seen v) b g = bound s b g - v := by
  have h1 : goingOf (cutS s b g seen v).moves b g = _ := (mv_all b g _).symm.trans (Cutter.rest_all (mv_pos hs b g) v)
  rw [mv_all] at h1
  have h2 := cut_heldIn (b := b) (g := g) (seen := seen) (v := v) hs b g
  have h3 := Cutter.rest_all (hd_pos hs b g) (v - goingOf s.moves b g)
  rw [hd_all, hd_all] at h3
  change ((cutHd s b g v).map (heldN s b g)).sum = heldIn s b g - min (max (v - goingOf s.moves b g) 0) (heldIn s b g) at h3
  rw [h3] at h2
  have h4 := goingOf_nonneg hs b g
  have h5 := heldTo_range hs b g s.holds.length
  rw [heldTo_all] at h5
  unfold bound at hv2 ⊢
  rw [h1, h2]
  omega
theorem cut_bound_other (hs : Sane p s) {b' g' : Int} (hne : ¬ (b' = b ∧ g' = g)) : bound (cutS s b g seen v) b' g' = bound s b' g' := by
  have h1 : goingOf (cutS s b g seen v).moves b' g' = goingOf s.moves b' g' := Cutter.rest_sum (C := mvC b g) (fromN b' g') (fun x n hx => by
    have := mv_is.1 hx
    unfold fromN
    rw [if_neg (by show ¬ (x.src = b' ∧ x.good = g'); omega), if_neg (by omega)]) (fun x hx => by
    have hx' : x.n = 0 := hx
    unfold fromN
    rw [hx']
    split <;> rfl) s.moves v
  have h2 := cut_heldIn (b := b) (g := g) (seen := seen) (v := v) hs b' g'
  have h3 : ((cutHd s b g v).map (heldN s b' g')).sum = heldIn s b' g' := Cutter.rest_sum (C := hdC s b g) (heldN s b' g') (fun x n hx => by
    have := hd_is.1 hx
    unfold heldN
    rw [if_neg (by show ¬ (x.bin = b' ∧ (s.line x.order.toNat x.line.toNat).good = g'); omega), if_neg (by omega)]) (fun x hx => by
    have hx' : x.n = 0 := hx
    unfold heldN
    rw [hx']
    split <;> rfl) s.holds _
  unfold bound
  rw [h1, h2, h3]

/-- What may be counted. -/
structure Counts (p : Plan) (s : State) (b g : Nat) (seen : Int) : Prop where
  hb : b < p.bins.length
  hg : g < p.sizes.length
  s0 : 0 ≤ seen
  s1 : seen ≤ 200
  f0 : -1048576 ≤ intAt s.fixed g + seen - cell s.on b g
  f1 : intAt s.fixed g + seen - cell s.on b g ≤ 1048576
/-- How many pieces are too many. -/
def over (s : State) (b g : Nat) (seen : Int) : Int := max (bound s b g - seen) 0
theorem cut_check (hc : checkState p s = 0) (f : Counts p s b g seen) : checkState p (cutS s b g seen (over s b g seen)) = 0 := by
  obtain ⟨h, hgot⟩ := check_iff.1 hc
  have hs := h.sane
  have hb0 := bound_range hs b g
  have hs0 := f.s0
  have hov : 0 ≤ over s b g seen ∧ over s b g seen ≤ bound s b g ∧ bound s b g - over s b g seen ≤ seen := by unfold over; omega
  generalize over s b g seen = v at hov
  have hbl : b < s.on.length := by rw [hs.onLen]; exact f.hb
  have hgl : g < (rowAt s.on b).length := by rw [hs.rowLen f.hb]; exact f.hg
  have hfl : g < s.fixed.length := by rw [hs.fixed.1]; exact f.hg
  refine check_iff.2 ⟨Right.of (Sane.of ?_ (by rw [cut_len]; exact hs.orders4) ?_ (fun o ho => ?_) (fun o k ho hk => ?_) (cutHd_ok hs b g v) (fun x hx => ?_) (fun x hx => ?_)
    (formed_iff.1 hs.form).2.2.2.2.1 (formed_iff.1 hs.form).2.2.2.2.2.1 (sumsOk_set (formed_iff.1 hs.form).2.2.2.2.2.2 hfl f.f0 f.f1)) (fun g' hg' => ?_) (fun b' g' hb' hg' => ?_) (fun o k ho hk => ?_), fun o ho => ?_⟩
  · exact checkShelf_zero.2 ⟨hs.plan, setCell_ok (checkShelf_zero.1 hs.shelf).2 ⟨f.s0, f.s1⟩ f.hb f.hg⟩
  · refine Nat.le_trans (Nat.le_trans (List.length_filter_le _ _) ?_) hs.moves8
    rw [Cutter.cut_length]
    exact Nat.le_refl _
  · rw [cut_len] at ho
    rw [cut_lines o ho, cut_kind o ho]
    exact ⟨hs.lines3 ho, hs.kind ho⟩
  · rw [cut_len] at ho
    rw [cut_lines o ho] at hk
    have hl := hs.line ho hk
    have h1 := (h.lineSum ho hk).1
    have h2 := cutN_range hs b g v o k
    have h3 := (kept_range hs.holds o k).1
    rw [cut_line ho hk, lineOk_iff]
    simp only
    refine ⟨hl.1, hl.2.1, hl.2.2.1, ?_⟩
    split at h1 <;> omega
  · obtain ⟨y, hy, e, _, _, _⟩ := Cutter.rest_mem (hd_pos hs b g) _ x hx
    have e' : x = { y with n := x.n } := e
    have h1 := holdIn_iff.1 (List.all_eq_true.1 (formed_iff.1 hs.form).2.2.1 y hy)
    obtain ⟨i, hi, rfl⟩ := List.getElem_of_mem hy
    have h2 := hs.holdAt hi
    rw [hold_get hi] at h2
    rw [e']
    exact holdIn_iff.2 ⟨by rw [cut_len]; exact h1.1, by rw [cut_lines _ (by show (s.holds[i]).order.toNat < _; omega)]; exact h1.2.1, h1.2.2⟩
  · obtain ⟨y, hy, e, a, a', _⟩ := Cutter.rest_mem (mv_pos hs b g) _ x hx
    have e' : x = { y with n := x.n } := e
    have h1 := moveOk_iff.1 (List.all_eq_true.1 (formed_iff.1 hs.form).2.2.2.1 y hy)
    change 1 ≤ x.n at a
    change x.n ≤ y.n at a'
    rw [e']
    exact moveOk_iff.2 ⟨h1.1, h1.2.1, h1.2.2.1, h1.2.2.2.1, a, by show x.n ≤ 200; omega⟩
  · have h1 := h.sum hg'
    have e1 : sumOf (cutS s b g seen v).on g' = _ := sumOf_setCell (n := seen) hbl hgl g'
    have e2 : intAt (cutS s b g seen v).fixed g' = if g' = g then intAt s.fixed g + seen - cell s.on b g else intAt s.fixed g' := intAt_set hfl
    rw [e1, e2]
    show _ = intAt s.inn g' - intAt s.out g' + _
    split
    · rename_i hq
      subst hq
      omega
    · omega
  · have h1 := h.bnd hb' hg'
    have e1 : cell (cutS s b g seen v).on b' g' = if b' = b ∧ g' = g then seen else cell s.on b' g' := cell_setCell hbl hgl
    rw [e1]
    by_cases hq : b' = b ∧ g' = g
    · obtain ⟨rfl, rfl⟩ := hq
      rw [if_pos ⟨rfl, rfl⟩, cut_bound_same hs hov.1 hov.2.1]
      exact hov.2.2
    · rw [if_neg hq, cut_bound_other hs (by omega)]
      exact h1
  · rw [cut_len] at ho
    rw [cut_lines o ho] at hk
    obtain ⟨l1, l2⟩ := h.lineSum ho hk
    have h2 := cutN_range hs b g v o k
    have h3 := (kept_range hs.holds o k).1
    have hl := hs.line ho hk
    refine lineSummed_iff.2 ?_
    have e1 : kept (cutS s b g seen v).holds o k = kept s.holds o k - cutN s b g v o k := cutHd_kept hs f.hb g v o k
    rw [cut_line ho hk, cut_kind o ho, e1]
    simp only
    refine ⟨?_, fun hh => l2 ⟨hh.1, by omega⟩⟩
    split at l1 <;> rename_i hz
    · rw [if_pos hz]; omega
    · rw [if_neg hz]; omega
  · rw [cut_len] at ho
    rw [cut_kind o ho]
    rintro ⟨h1, h2⟩
    refine hgot o ho ⟨h1, allGot_iff.2 fun k hk => ?_⟩
    have h3 := allGot_iff.1 h2 k (by rw [cut_lines o ho]; exact hk)
    have h4 := cut_line (b := b) (g := g) (seen := seen) (v := v) ho hk
    unfold State.line at h4
    rw [h4] at h3
    exact h3
end
end Wh
namespace Wh

/-- t is what comes of s by holding for the lines of S, but not in bin b. -/
structure Took (p : Plan) (b : Nat) (S : Nat → Nat → Prop) (s t : State) : Prop where
  right : Right p t
  on : t.on = s.on
  moves : t.moves = s.moves
  inn : t.inn = s.inn
  out : t.out = s.out
  fixed : t.fixed = s.fixed
  orders : t.orders.length = s.orders.length
  kind : ∀ o, (t.order o).kind = (s.order o).kind
  lines : ∀ o, (t.order o).lines.length = (s.order o).lines.length
  line : ∀ o k, (t.line o k).good = (s.line o k).good ∧ (t.line o k).want = (s.line o k).want ∧ (t.line o k).got = (s.line o k).got
  bnd : ∀ g : Int, bound t b g = bound s b g
  back : ∀ o k, ¬ S o k → (t.line o k).back = (s.line o k).back
namespace Took
variable {p : Plan} {b : Nat} {S S' : Nat → Nat → Prop} {s t u : State}
theorem refl (h : Right p s) : Took p b S s s := ⟨h, rfl, rfl, rfl, rfl, rfl, rfl, fun _ => rfl, fun _ => rfl, fun _ _ => ⟨rfl, rfl, rfl⟩, fun _ => rfl, fun _ _ _ => rfl⟩
theorem mono (h : Took p b S s t) (hS : ∀ o k, S o k → S' o k) : Took p b S' s t := { h with back := fun o k hn => h.back o k fun hs => hn (hS o k hs) }
theorem trans (h : Took p b S s t) (h' : Took p b S' t u) : Took p b (fun o k => S o k ∨ S' o k) s u := by
  refine ⟨h'.right, h'.on.trans h.on, h'.moves.trans h.moves, h'.inn.trans h.inn, h'.out.trans h.out, h'.fixed.trans h.fixed, h'.orders.trans h.orders, fun o => (h'.kind o).trans (h.kind o), fun o => (h'.lines o).trans (h.lines o), fun o k => ?_, fun g => (h'.bnd g).trans (h.bnd g), fun o k hn => ?_⟩
  · obtain ⟨a1, a2, a3⟩ := h.line o k
    obtain ⟨b1, b2, b3⟩ := h'.line o k
    exact ⟨b1.trans a1, b2.trans a2, b3.trans a3⟩
  · exact (h'.back o k fun hs => hn (.inr hs)).trans (h.back o k fun hs => hn (.inl hs))
theorem one {o k : Nat} {n : Int} (h : Right p s) (hm : n = 0 ∨ May s o k n) : Took p b (fun o' k' => o' = o ∧ k' = k) s (takeS p s o k n b).1 := by
  rcases hm with rfl | hm
  · have : takeS p s o k 0 b = (s, 0) := takeGo_zero (by omega)
    rw [this]
    exact refl h
  · obtain ⟨h1, _, _⟩ := takeS_held (but := b) h hm
    exact ⟨h1.right, h1.on, h1.moves, h1.inn, h1.out, h1.fixed, h1.orders, h1.kind, h1.lines, h1.line, fun g => takeS_but h hm g, fun o' k' hn => by rw [h1.back, if_neg hn, Int.sub_zero]⟩
theorem may (h : Took p b S s t) {o k : Nat} {n : Int} (hn : ¬ S o k) (hm : n = 0 ∨ May s o k n) : n = 0 ∨ May t o k n := by
  rcases hm with hm | hm
  · exact .inl hm
  · exact .inr ⟨by rw [h.orders]; exact hm.ho, by rw [h.lines]; exact hm.hk, by rw [h.kind]; exact hm.kind, hm.n0, by rw [h.back o k hn]; exact hm.back⟩
theorem check (h : Took p b S s t) (hs : checkState p s = 0) : checkState p t = 0 := by
  refine check_iff.2 ⟨h.right, fun o ho => ?_⟩
  rw [h.orders] at ho
  have := (check_iff.1 hs).2 o ho
  rw [h.kind]
  rintro ⟨h1, h2⟩
  refine this ⟨h1, allGot_iff.2 fun k hk => ?_⟩
  have h3 := allGot_iff.1 h2 k (by rw [h.lines]; exact hk)
  have h4 := h.line o k
  unfold State.line at h4
  rw [h4.2.1, h4.2.2] at h3
  exact h3
end Took

def cutLinesT (p : Plan) (o : Nat) (b : Int) (n : Nat → Int) : Nat → State → State
  | 0, s => s
  | k + 1, s => (takeS p (cutLinesT p o b n k s) o k (n k) b).1
def cutOrdersT (p : Plan) (b : Int) (n : Nat → Nat → Int) : Nat → State → State
  | 0, s => s
  | o + 1, s => cutLinesT p o b (n o) ((cutOrdersT p b n o s).order o).lines.length (cutOrdersT p b n o s)
def countS (p : Plan) (s : State) (b g : Nat) (seen : Int) : State :=
  cutOrdersT p b (fun o k => cutN s b g (over s b g seen) o k) s.orders.length (cutS s b g seen (over s b g seen))
def count (p : Plan) (s : State) (b g seen : Int) : State × Int :=
  if checkState p s ≠ 0 then (dState, checkState p s)
  else if !(isBin p b && isGood p g && within seen 0 200) then (dState, 3)
  else if !(within (intAt s.fixed g.toNat + seen - cell s.on b.toNat g.toNat) (-1048576) 1048576) then (dState, 2)
  else (countS p s b.toNat g.toNat seen, 0)

section
variable {p : Plan} {s : State} {b g : Nat} {seen v : Int} {n : Nat → Nat → Int}
theorem cutLinesT_took {o : Nat} {n : Nat → Int} (h : Right p s) (hn : ∀ k, k < (s.order o).lines.length → n k = 0 ∨ May s o k (n k)) : ∀ m, m ≤ (s.order o).lines.length → Took p b (fun o' k' => o' = o ∧ k' < m) s (cutLinesT p o b n m s)
  | 0, _ => Took.refl h
  | m + 1, hm => by
    have h1 := cutLinesT_took h hn m (by omega)
    have h2 := Took.one (b := b) h1.right (h1.may (by omega) (hn m (by omega)))
    exact (h1.trans h2).mono fun o' k' hs => by omega
theorem cutOrdersT_took (h : Right p s) (hn : ∀ o k, o < s.orders.length → k < (s.order o).lines.length → n o k = 0 ∨ May s o k (n o k)) : ∀ m, m ≤ s.orders.length → Took p b (fun o' _ => o' < m) s (cutOrdersT p b n m s)
  | 0, _ => Took.refl h
  | m + 1, hm => by
    have h1 := cutOrdersT_took h hn m (by omega)
    have h2 := cutLinesT_took (b := b) (o := m) (n := n m) h1.right (fun k hk => h1.may (by omega) (hn m k (by omega) (by rw [← h1.lines]; exact hk))) _ (Nat.le_refl _)
    exact (h1.trans h2).mono fun o' k' hs => by omega
theorem cut_ready (h : Right p s) {o k : Nat} (ho : o < s.orders.length) (hk : k < (s.order o).lines.length) : cutN s b g v o k = 0 ∨ May (cutS s b g seen v) o k (cutN s b g v o k) := by
  have h1 := cutN_range h.sane b g v o k
  by_cases hz : cutN s b g v o k = 0
  · exact .inl hz
  · have h2 := h.lineSum ho hk
    have h3 := h.sane.line ho hk
    have h4 := h.sane.kind ho
    have h5 : (s.order o).kind ≠ 0 := fun e => by rw [if_pos e] at h2; omega
    have h6 : (s.order o).kind ≠ 2 := fun e => h2.2 ⟨e, by omega⟩
    refine .inr ⟨by rw [cut_len]; exact ho, by rw [cut_lines o ho]; exact hk, by rw [cut_kind o ho]; omega, h1.1, ?_⟩
    rw [cut_line ho hk]
    simp only
    omega
theorem count_took (hc : checkState p s = 0) (f : Counts p s b g seen) : Took p b (fun o _ => o < s.orders.length) (cutS s b g seen (over s b g seen)) (countS p s b g seen) := by
  have h := right_of_check hc
  have hcut := right_of_check (cut_check hc f)
  exact cutOrdersT_took hcut (fun o k ho hk => by
    rw [cut_len] at ho
    rw [cut_lines o ho] at hk
    exact cut_ready h ho hk) _ (by rw [cut_len]; exact Nat.le_refl _)
theorem count_check (hc : checkState p s = 0) (f : Counts p s b g seen) : checkState p (countS p s b g seen) = 0 := (count_took hc f).check (cut_check hc f)
theorem count_len (hc : checkState p s = 0) (f : Counts p s b g seen) : (countS p s b g seen).orders.length = s.orders.length := by rw [(count_took hc f).orders, cut_len]
theorem count_lines (hc : checkState p s = 0) (f : Counts p s b g seen) {o : Nat} (ho : o < s.orders.length) : ((countS p s b g seen).order o).lines.length = (s.order o).lines.length := by rw [(count_took hc f).lines, cut_lines o ho]
theorem count_right {b g : Int} (h : (count p s b g seen).2 = 0) : checkState p s = 0 ∧ ∃ i j : Nat, b = i ∧ g = j ∧ Counts p s i j seen ∧ (count p s b g seen).1 = countS p s i j seen := by
  unfold count at h ⊢
  by_cases h1 : checkState p s = 0
  · rw [if_neg (fun hn => hn h1)] at h ⊢
    by_cases h2 : (isBin p b && isGood p g && within seen 0 200) = true
    · rw [if_neg (by rw [h2]; simp)] at h ⊢
      by_cases h3 : within (intAt s.fixed g.toNat + seen - cell s.on b.toNat g.toNat) (-1048576) 1048576 = true
      · rw [if_neg (by rw [h3]; simp)]
        simp only [Bool.and_eq_true] at h2
        obtain ⟨i, rfl, hi⟩ := bin_nat h2.1.1
        obtain ⟨j, rfl, hj⟩ := good_nat h2.1.2
        have h4 := within_iff.1 h2.2
        have h5 := within_iff.1 h3
        simp only [Int.toNat_natCast] at h5 ⊢
        exact ⟨h1, i, j, rfl, rfl, ⟨hi, hj, h4.1, h4.2, h5.1, h5.2⟩, rfl⟩
      · rw [if_pos (by simpa using h3)] at h
        simp at h
    · rw [Bool.not_eq_true] at h2
      rw [h2, if_pos (by rfl)] at h
      simp at h
  · rw [if_pos h1] at h
    exact absurd h h1
end
section
variable {p : Plan} {s : State} {b g n : Int}
theorem count_bad (h : checkState p s ≠ 0) : count p s b g n = (dState, checkState p s) := by unfold count; rw [if_pos h]
theorem count_range (h : checkState p s = 0) (h2 : (isBin p b && isGood p g && within n 0 200) = false) : count p s b g n = (dState, 3) := by
  unfold count
  rw [if_neg (fun hn => hn h), h2]
  rfl
theorem count_many {i j : Nat} (h : checkState p s = 0) (hi : i < p.bins.length) (hj : j < p.sizes.length) (hn : 0 ≤ n ∧ n ≤ 200) (h2 : intAt s.fixed j + n - cell s.on i j < -1048576 ∨ 1048576 < intAt s.fixed j + n - cell s.on i j) : count p s i j n = (dState, 2) := by
  have h3 : (isBin p (i : Int) && isGood p (j : Int) && within n 0 200) = true := by rw [isBin_iff.2 (by omega), isGood_iff.2 (by omega), within_iff.2 hn]; rfl
  unfold count
  rw [if_neg (fun hn => hn h), h3, if_neg (by simp)]
  simp only [Int.toNat_natCast]
  rw [within_false.2 h2]
  rfl
theorem count_ok {i j : Nat} (h : checkState p s = 0) (f : Counts p s i j n) : count p s i j n = (countS p s i j n, 0) := by
  have h1 := f.hb
  have h2 := f.hg
  have h3 : (isBin p (i : Int) && isGood p (j : Int) && within n 0 200) = true := by rw [isBin_iff.2 (by omega), isGood_iff.2 (by omega), within_iff.2 ⟨f.s0, f.s1⟩]; rfl
  unfold count
  rw [if_neg (fun hn => hn h), h3, if_neg (by simp)]
  simp only [Int.toNat_natCast]
  rw [within_iff.2 ⟨f.f0, f.f1⟩]
  rfl
end
end Wh
namespace Wh
open Go Go.RowKit Go.Shelf Go.Proofs
attribute [local go_sem] run_indexAt_letter

theorem Bx.setRest {w : World} {base b : Nat} {t : TypeId} {rest : List Value} {V : SV} {s : State} (h : Bx w base b t rest V s) (j : Nat) (u : Value) :
    Bx (w.setCell ⟨b, 7 + j, none⟩ u) base b t (rest.set j u) V s ∧ w.grownBy (w.setCell ⟨b, 7 + j, none⟩ u) (some b) := by
  obtain ⟨h1, h2⟩ := set_row h.box (7 + j) u
  have e : (V.cells ++ rest).set (7 + j) u = V.cells ++ rest.set j u := by
    rw [List.set_append_right _ _ (by simp [SV.cells])]
    simp [SV.cells]
  rw [e] at h1
  exact ⟨⟨h1, h.own.keptBy h2 h.box h.ty.h1 h.ty.h2 h.ty.h3 h.ty.h4 h.ty.h5 h.ty.h6, h.ty⟩, h2⟩
theorem boxTC : BoxT 95 := ⟨by decide, by decide, by decide, by decide, by decide, by decide⟩
/-- The cutter's own numbers. -/
abbrev cutR (bin good over : Int) (m : Value) : List Value := [.int .i64 bin, .int .i64 good, .int .i64 over, m]

set_option maxHeartbeats 4000000 in
theorem ctLess (w : World) (n : Int) {base b : Nat} {V : SV} {s : State} {bin good over : Int} {m : Value} (hB : Bx w base b 95 (cutR bin good over m) V s) (hn : 0 ≤ n ∧ n ≤ 200) (ho : -1000000 ≤ over ∧ over ≤ 1000000) :
    Calls Tryz.prog 115 #[.pointer (some ⟨b, 0, none⟩), .int .i64 n] w fun e w' => e = .returned (.int .i64 (Cutter.less over n)) ∧ Bx w' base b 95 (cutR bin good (over - Cutter.less over n) m) V s ∧ Step (· = b) w w' := by
  have hB' := Lib.hid hB
  have r1 := hB.box.cell (j := 9) rfl
  have f1 := hB.box.frozen 9
  have hw : IntKind.i64.wrap (over - n) = over - n := IntWalk.i64_in _ (by omega)
  have hw2 : IntKind.i64.wrap over = over := IntWalk.i64_in _ (by omega)
  have fin : ∀ q r : Int, q = Cutter.less over n → r = over - Cutter.less over n → Ending.returned (.int .i64 q) = .returned (.int .i64 (Cutter.less over n)) ∧ Bx (w.setCell ⟨b, 9, none⟩ (.int .i64 r)) base b 95 (cutR bin good (over - Cutter.less over n) m) V s ∧ Step (· = b) w (w.setCell ⟨b, 9, none⟩ (.int .i64 r)) := by
    rintro q r rfl rfl
    obtain ⟨h1, h2⟩ := hB'.out.setRest 2 (.int .i64 (over - Cutter.less over n))
    exact ⟨rfl, h1, .of_grown h2 fun k hk => by injection hk with hk; exact hk.symm⟩
  clear hB
  have fin' := Lib.hid fin
  clear fin
  go_enter Tryz.func115, Tryz.ntmps115
  go_wp2_with fail
  all_goals
    go_ret
    exact fin'.out _ _ (by unfold Cutter.less; omega) (by unfold Cutter.less; omega)
end Wh
namespace Wh
open Go Go.RowKit

theorem wpIn_rangeFunc_mem {α : Type} {F : Fence} {n : Nat} {P : Program} {g : Operand} {ps : Array Tmp} {assign body : Code} {Q : Exit → Act → World → Prop} {a : Act} {w : World}
    (hro : F.round = none) (h1 : 1 ≤ n) {gf : Nat} {lb : Array Value} (hg : a.eval g = .func (.func gf) #[] lb) (hFg : F.fn gf) (eg : ∀ args w, (callFunc gf args).run P w = .ok (.enter gf args) w)
    {encs : α → Array Value} (hps : ∀ x, (encs x).size = ps.size)
    (I : List α → World → Prop) (hI : OwnFrom w.heap.size I) (h0 : I [] w) (Nx : List α → α → Prop) (S : List α → Prop)
    (hseq : ∀ (l : Nat) (J : List α → World → Prop) (W : World), Below w.heap.size w W → (∀ pre V, J pre V → I pre V) → AbidesFrom W.heap.size J →
      (∀ pre x V, J pre V → Nx pre x → YieldAt F (n - 1 - 1) P l (encs x) V fun e V' => e = .returned (.bool true) ∧ J (pre ++ [x]) V') → J [] W →
      CallsIn F (n - 1) P gf (#[.func (.yield l) #[] #[]] ++ lb) W fun e V => (∃ v, e = .returned v) ∧ ∃ xs, S xs ∧ J xs V)
    (Ax : α → Act → World → Prop) (hAx : ∀ x a', OwnFrom w.heap.size (fun (_ : Unit) W => Ax x a' W))
    (hassign : ∀ (l : Nat) (pre : List α) (x : α) (W : World) (K : Act → World → Prop), I pre W → (∀ a' W', KeepsFrom w.heap.size W W' → I pre W' → Ax x a' W' → K a' W') →
      assign.wpIn (F.inRound l) (n - 1 - 1) P (Exit.then K (fun _ _ _ => False)) { tmps := (ps.zip (encs x)).foldl (fun t (p, v) => t.setIfInBounds p v) a.tmps, defers := [] } W)
    (hbody : ∀ (l : Nat) (pre : List α) (x : α) (a' : Act) (W : World), w.heap.size ≤ l → I pre W → Nx pre x → Ax x a' W →
      body.wpIn (F.inRound l) (n - 1 - 1) P (Exit.then (fun _ W' => KeepsFrom w.heap.size W W' ∧ I (pre ++ [x]) W') (fun _ _ _ => False)) a' W)
    (hdone : ∀ (D : Nat) (xs : List α) (W : World), w.heap.size ≤ D → S xs → I xs W → W.heap[D]? = some (.deferred (some [])) → Q .normal { a with defers := { target := .collected D, args := #[] } :: a.defers } W) :
    (Code.rangeFunc g ps assign body).wpIn F n P Q a w := by
  refine wpIn_rangeFunc fun fn hfn => ?_
  rw [hro]
  obtain ⟨rec, hrec⟩ : ∃ rec : LoopState → Loop, rec = fun st => { state := st, pending := none, fn, tmps := a.tmps, params := ps, assign, body, defers := w.heap.size } := ⟨_, rfl⟩
  have hba : Below w.heap.size w ((w.alloc (.deferred (some []))).alloc (.loop (rec .ready))) := ((Below.refl _ w).alloc (Nat.le_refl _) _).alloc (by simp) _
  have hL : ((w.alloc (.deferred (some []))).alloc (.loop (rec .ready))).heap[w.heap.size + 1]? = some (.loop (rec .ready)) := by
    have := World.alloc_heap_new (w.alloc (.deferred (some []))) (.loop (rec .ready))
    rwa [World.size_alloc] at this
  have hD : ((w.alloc (.deferred (some []))).alloc (.loop (rec .ready))).heap[w.heap.size]? = some (.deferred (some [])) := (Below.heap_alloc _ _ _ (by simp)).trans (World.alloc_heap_new w _)
  have hi0 : I [] ((w.alloc (.deferred (some []))).alloc (.loop (rec .ready))) := hI.alloc _ (hI.alloc _ h0)
  have hent := run_enterLoop_outer (P := P) (w := w) fn a.tmps ps assign body
  have hsz : ((w.alloc (.deferred (some []))).alloc (.loop (rec .ready))).heap.size = w.heap.size + 2 := by simp
  have hent' : (Instr.enterLoop fn a.tmps ps assign body none).run P w = .ok (w.heap.size + 1, [{ target := .collected w.heap.size, args := #[] }]) ((w.alloc (.deferred (some []))).alloc (.loop (rec .ready))) := by
    rw [hent, hrec]
  clear hent
  generalize (w.alloc (.deferred (some []))).alloc (.loop (rec .ready)) = W1 at hba hL hD hi0 hsz hent'
  refine ⟨w.heap.size + 1, [{ target := .collected w.heap.size, args := #[] }], W1, { target := .fn (.func gf) lb, args := #[.func (.yield (w.heap.size + 1)) #[] #[]] }, W1, gf, #[.func (.yield (w.heap.size + 1)) #[] #[]] ++ lb, W1, hent', ?_, ?_, ?_, fun _ => h1, ?_⟩
  · simp only [resolve, hg]
    simp [go_sem]
  · intro f' hf'
    simp [Target.leads] at hf'
    subst hf'
    exact hFg
  · simp [invoke, go_sem, eg]
  · have hturn : ∀ {A B : World} {row : Option Nat} {k : Nat} {o : Obj}, A.grownBy B row → (∀ r, row = some r → W1.heap.size ≤ r ∧ ∃ o : Obj, A.heap[r]? = some o ∧ o.isWalk = true) → k < w.heap.size + 2 → A.heap[k]? = some o → B.heap[k]? = some o := fun hg' hr hk ho =>
      (hg'.block _ (Array.getElem?_eq_some_iff.1 ho).1 (fun e => by have := (hr _ e.symm).1; omega)).trans ho
    refine (hseq (w.heap.size + 1) (fun pre W => I pre W ∧ W.heap[w.heap.size + 1]? = some (.loop (rec .ready)) ∧ W.heap[w.heap.size]? = some (.deferred (some []))) W1 hba (fun _ _ h => h.1)
      (fun s A B row hs hg' hr => ⟨hI s A B row hs.1 hg' (fun r e => by obtain ⟨hB, o, ho, hw⟩ := hr r e; exact ⟨by omega, o, ho, Obj.not_cells_of_walk hw⟩), hturn hg' hr (by omega) hs.2.1, hturn hg' hr (by omega) hs.2.2⟩) ?_ ⟨hi0, hL, hD⟩).mono ?_
    · rintro pre x W ⟨hi, hl, hk⟩ hnx
      have hlt : w.heap.size + 1 < W.heap.size := (Array.getElem?_eq_some_iff.1 hl).1
      have hy := run_yield (P := P) (args := encs x) hl (by rw [hrec]; exact hps x)
      rw [hrec] at hy
      refine ⟨fn, _, assign, body, hy, roundIn_of_wpIn hfn (hassign _ pre x W _ hi ?_)⟩
      clear hy
      intro a' Wa hkf hia hax
      have hla := hkf.same _ _ (by omega) hl rfl
      have hka := hkf.same _ _ (Nat.le_refl _) hk rfl
      refine ⟨_, run_beginRound hla (by rw [hrec]), ?_⟩
      have hltA : w.heap.size + 1 < Wa.heap.size := (Array.getElem?_eq_some_iff.1 hla).1
      have hl2 : (Wa.putObj (w.heap.size + 1) (.loop { rec .ready with state := .busy })).heap[w.heap.size + 1]? = some (.loop { rec .ready with state := .busy }) := World.putObj_heap_same hltA
      have hk2 : (Wa.putObj (w.heap.size + 1) (.loop { rec .ready with state := .busy })).heap[w.heap.size]? = some (.deferred (some [])) := (World.putObj_heap_other (by omega)).trans hka
      refine wpIn_mono (hbody _ pre x a' _ (by omega) (hI.putObj _ hia (by omega) hla rfl) hnx ((hAx x a').putObj (s := ()) _ hax (by omega) hla rfl)) ?_
      rintro e a3 W3 hp
      cases e with
      | normal =>
        obtain ⟨hk3, hi3⟩ := hp
        have hl3 := hk3.same _ _ (by omega) hl2 rfl
        have hd3 := hk3.same _ _ (Nat.le_refl _) hk2 rfl
        have hlt3 : w.heap.size + 1 < W3.heap.size := (Array.getElem?_eq_some_iff.1 hl3).1
        have hend := run_endRound (P := P) none hl3
        refine ⟨_, _, hend, rfl, hI.putObj _ hi3 (by omega) hl3 rfl, ?_, ?_⟩
        · have := World.putObj_heap_same (o := Obj.loop { ({ rec .ready with state := .busy } : Loop) with state := .ready, pending := none }) hlt3
          rw [hrec] at this ⊢
          exact this
        · exact (World.putObj_heap_other (by omega)).trans hd3
      | ret => exact hp.elim
      | exit id => exact hp.elim
      | goto t => exact hp.elim
      | panic ch => exact hp.elim
      | outgrown => exact hp.elim
    · rintro e W2 ⟨⟨v, rfl⟩, xs, hS, hi, hl, hk⟩
      have hend := run_endLoop (P := P) hl (by rw [hrec]; simp)
      refine ⟨none, _, by rw [hrec] at hend; exact hend, hdone _ xs _ (Nat.le_refl _) hS (hI.putObj _ hi (by omega) hl rfl) ((World.putObj_heap_other (by omega)).trans hk)⟩
end Wh
namespace Wh
open Go Go.RowKit Go.Shelf Go.Proofs
attribute [local go_sem] run_indexAt_letter
attribute [local go_sem] Oper.semAt_some

theorem backMove_in (n : Nat) (A : Option Addr) (k c : Nat) (w : World) :
    CallsIn Fence.wide n Tryz.prog 114 #[.slice A k c] w fun e w' => e = .returned (.func (.func 158) #[] #[.pointer (some ⟨w.heap.size, 0, none⟩)]) ∧
      w' = w.alloc (.cells #[.slice A k c] 29) := by
  refine callsIn_of_wp Tryz.func114 rfl trivial ?_ rfl
  simp only [Tryz.ntmps114, List.size_toArray, List.length_cons, List.length_nil, Nat.reduceAdd, Nat.reduceSub, Array.replicate_succ, Array.replicate_zero, List.push_toArray, List.append_toArray, List.nil_append, List.cons_append]
  gi_wp2
  go_ret
  exact ⟨rfl, rfl⟩
/-- What the iterator reads: its own box, and the elements that are still to come. -/
def ReadsMove (Bs : Nat) (A : Option Addr) (c : Nat) (xs : List Move) (k : Nat) (V : World) : Prop :=
  V.cell? ⟨Bs, 0, none⟩ = some (.slice A xs.length c) ∧ ∀ i, i + k < xs.length → ∃ g, A = some ⟨g, 0, none⟩ ∧ V.cell? ⟨g, i * 4, none⟩ = some (.int .i64 (moveAt xs i).good) ∧ V.cell? ⟨g, i * 4 + 1, none⟩ = some (.int .i64 (moveAt xs i).src) ∧
    V.cell? ⟨g, i * 4 + 2, none⟩ = some (.int .i64 (moveAt xs i).dst) ∧ V.cell? ⟨g, i * 4 + 3, none⟩ = some (.int .i64 (moveAt xs i).n)
set_option maxRecDepth 100000 in
set_option maxHeartbeats 4000000 in
theorem backMove_seq (n l Bs : Nat) (A : Option Addr) (c : Nat) (xs : List Move) (hn : 1 ≤ n) (hlen : xs.length ≤ 1000000) (J : List Nat → World → Prop) (W : World) (hJ : ∀ pre V, J pre V → ReadsMove Bs A c xs pre.length V)
    (hY : ∀ pre x V, J pre V → (x + pre.length + 1 = xs.length) → YieldAt Fence.wide (n - 1) Tryz.prog l #[.int .i64 (x : Nat), vMove (moveAt xs x)] V fun e V' => e = .returned (.bool true) ∧ J (pre ++ [x]) V') (h0 : J [] W) :
    CallsIn Fence.wide n Tryz.prog 158 (#[.func (.yield l) #[] #[]] ++ #[.pointer (some ⟨Bs, 0, none⟩)]) W fun e V => (∃ v, e = .returned v) ∧ ∃ ys, ys.length = xs.length ∧ J ys V := by
  change CallsIn Fence.wide n Tryz.prog _ #[.func (.yield l) #[] #[], .pointer (some ⟨Bs, 0, none⟩)] W _
  refine callsIn_of_wp Tryz.func158 rfl trivial ?_ rfl
  simp only [Tryz.ntmps158, List.size_toArray, List.length_cons, List.length_nil, Nat.reduceAdd, Nat.reduceSub, Array.replicate_succ, Array.replicate_zero, List.push_toArray, List.append_toArray, List.nil_append, List.cons_append]
  obtain ⟨b0, _⟩ := hJ _ _ h0
  have hw0 : IntKind.i64.wrap ((xs.length : Int) - 1) = (xs.length : Int) - 1 := IntWalk.i64_in _ (by omega)
  gi_wp2
  clear b0
  gi_loopw [3] (fun i wr => ∃ (j : Nat) (pre : List Nat), j + pre.length = xs.length ∧ i = .int .i64 ((j : Int) - 1) ∧ J pre wr) (fun i _ => (intOf i + 1).toNat)
  case atStart => exact ⟨xs.length, [], rfl, rfl, h0⟩
  case round =>
    clear h0 hw0
    obtain ⟨j, pre, hj, rfl, hJr⟩ := hrel
    cases j with
    | zero =>
      have t1 : decide ((0 : Int) ≤ ((0 : Nat) : Int) - 1) = false := by simp
      gi_wp2
      go_end0
      exact ⟨⟨_, rfl⟩, pre, by omega, hJr⟩
    | succ m =>
      have e1 : ((m + 1 : Nat) : Int) - 1 = (m : Int) := by omega
      rw [e1]
      obtain ⟨b0, hrd⟩ := hJ _ _ hJr
      obtain ⟨g, rfl, q0, q1, q2, q3⟩ := hrd m (by omega)
      have hm1 : (m : Int) < (xs.length : Int) := by omega
      have hwm : IntKind.i64.wrap ((m : Int) - 1) = (m : Int) - 1 := IntWalk.i64_in _ (by omega)
      obtain ⟨fn, tmps, assign, body, hy, hR⟩ := hY pre m wr hJr (by omega)
      unfold vMove at hy
      gi_wp2
      refine hR.mono ?_
      rintro e W3 ⟨rfl, hJ3⟩
      gi_wp2
      go_roundw
      case rel => exact ⟨m, pre ++ [m], by rw [List.length_append, List.length_singleton]; omega, by go_num, hJ3⟩
      case measure => simp [intOf]
theorem backHold_in (n : Nat) (A : Option Addr) (k c : Nat) (w : World) :
    CallsIn Fence.wide n Tryz.prog 118 #[.slice A k c] w fun e w' => e = .returned (.func (.func 160) #[] #[.pointer (some ⟨w.heap.size, 0, none⟩)]) ∧
      w' = w.alloc (.cells #[.slice A k c] 28) := by
  refine callsIn_of_wp Tryz.func118 rfl trivial ?_ rfl
  simp only [Tryz.ntmps118, List.size_toArray, List.length_cons, List.length_nil, Nat.reduceAdd, Nat.reduceSub, Array.replicate_succ, Array.replicate_zero, List.push_toArray, List.append_toArray, List.nil_append, List.cons_append]
  gi_wp2
  go_ret
  exact ⟨rfl, rfl⟩
/-- What the iterator reads: its own box, and the elements that are still to come. -/
def ReadsHold (Bs : Nat) (A : Option Addr) (c : Nat) (xs : List Hold) (k : Nat) (V : World) : Prop :=
  V.cell? ⟨Bs, 0, none⟩ = some (.slice A xs.length c) ∧ ∀ i, i + k < xs.length → ∃ g, A = some ⟨g, 0, none⟩ ∧ V.cell? ⟨g, i * 4, none⟩ = some (.int .i64 (hold xs i).order) ∧ V.cell? ⟨g, i * 4 + 1, none⟩ = some (.int .i64 (hold xs i).line) ∧
    V.cell? ⟨g, i * 4 + 2, none⟩ = some (.int .i64 (hold xs i).bin) ∧ V.cell? ⟨g, i * 4 + 3, none⟩ = some (.int .i64 (hold xs i).n)
set_option maxRecDepth 100000 in
set_option maxHeartbeats 4000000 in
theorem backHold_seq (n l Bs : Nat) (A : Option Addr) (c : Nat) (xs : List Hold) (hn : 1 ≤ n) (hlen : xs.length ≤ 1000000) (J : List Nat → World → Prop) (W : World) (hJ : ∀ pre V, J pre V → ReadsHold Bs A c xs pre.length V)
    (hY : ∀ pre x V, J pre V → (x + pre.length + 1 = xs.length) → YieldAt Fence.wide (n - 1) Tryz.prog l #[.int .i64 (x : Nat), vHold (hold xs x)] V fun e V' => e = .returned (.bool true) ∧ J (pre ++ [x]) V') (h0 : J [] W) :
    CallsIn Fence.wide n Tryz.prog 160 (#[.func (.yield l) #[] #[]] ++ #[.pointer (some ⟨Bs, 0, none⟩)]) W fun e V => (∃ v, e = .returned v) ∧ ∃ ys, ys.length = xs.length ∧ J ys V := by
  change CallsIn Fence.wide n Tryz.prog _ #[.func (.yield l) #[] #[], .pointer (some ⟨Bs, 0, none⟩)] W _
  refine callsIn_of_wp Tryz.func160 rfl trivial ?_ rfl
  simp only [Tryz.ntmps160, List.size_toArray, List.length_cons, List.length_nil, Nat.reduceAdd, Nat.reduceSub, Array.replicate_succ, Array.replicate_zero, List.push_toArray, List.append_toArray, List.nil_append, List.cons_append]
  obtain ⟨b0, _⟩ := hJ _ _ h0
  have hw0 : IntKind.i64.wrap ((xs.length : Int) - 1) = (xs.length : Int) - 1 := IntWalk.i64_in _ (by omega)
  gi_wp2
  clear b0
  gi_loopw [3] (fun i wr => ∃ (j : Nat) (pre : List Nat), j + pre.length = xs.length ∧ i = .int .i64 ((j : Int) - 1) ∧ J pre wr) (fun i _ => (intOf i + 1).toNat)
  case atStart => exact ⟨xs.length, [], rfl, rfl, h0⟩
  case round =>
    clear h0 hw0
    obtain ⟨j, pre, hj, rfl, hJr⟩ := hrel
    cases j with
    | zero =>
      have t1 : decide ((0 : Int) ≤ ((0 : Nat) : Int) - 1) = false := by simp
      gi_wp2
      go_end0
      exact ⟨⟨_, rfl⟩, pre, by omega, hJr⟩
    | succ m =>
      have e1 : ((m + 1 : Nat) : Int) - 1 = (m : Int) := by omega
      rw [e1]
      obtain ⟨b0, hrd⟩ := hJ _ _ hJr
      obtain ⟨g, rfl, q0, q1, q2, q3⟩ := hrd m (by omega)
      have hm1 : (m : Int) < (xs.length : Int) := by omega
      have hwm : IntKind.i64.wrap ((m : Int) - 1) = (m : Int) - 1 := IntWalk.i64_in _ (by omega)
      obtain ⟨fn, tmps, assign, body, hy, hR⟩ := hY pre m wr hJr (by omega)
      unfold vHold at hy
      gi_wp2
      refine hR.mono ?_
      rintro e W3 ⟨rfl, hJ3⟩
      gi_wp2
      go_roundw
      case rel => exact ⟨m, pre ++ [m], by rw [List.length_append, List.length_singleton]; omega, by go_num, hJ3⟩
      case measure => simp [intOf]
end Wh
