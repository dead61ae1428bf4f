/- Texts of the claim, joined: PlainH, PlainC. -/
import Derived.Test.YtnjgkhcnialplaaP13
import Derived.Test.YtnjgkhcnialplaaP03
namespace Wh

theorem keptAt_cons (x : Hold) (l : List Hold) (o ln b : Int) : keptAt (x :: l) o ln b = if x.order = o ∧ x.line = ln ∧ x.bin = b then x.n else keptAt l o ln b := by
  unfold keptAt
  rw [List.find?_cons]
  by_cases hk : x.order = o ∧ x.line = ln ∧ x.bin = b
  · rw [if_pos hk, sameKey_iff.2 hk]
  · rw [if_neg hk, show sameKey o ln b x = false by rw [← Bool.not_eq_true, sameKey_iff]; exact hk]
theorem filter_all {α : Type} {p : α → Bool} {l : List α} (h : ∀ x ∈ l, p x = true) : l.filter p = l := List.filter_eq_self.2 h
theorem filter_none {α : Type} {p : α → Bool} {l : List α} (h : ∀ x ∈ l, p x = false) : l.filter p = [] := List.filter_eq_nil_iff.2 fun x hx => by rw [h x hx]; simp
/-- Right holds in three parts: before a place, there, behind it. -/
theorem sum_parts {h : Hold} (hk : keyOk h.order h.line h.bin) (F : Hold → Int) (f : Int → Int → Int → Int) (hF : ∀ x, F x = f x.order x.line x.bin * x.n) : ∀ {l : List Hold}, fine l → rises l →
    (l.map F).sum = ((l.filter fun x => decide (place x < place h)).map F).sum + f h.order h.line h.bin * keptAt l h.order h.line h.bin + ((l.filter fun x => decide (place h < place x)).map F).sum := by
  intro l
  induction l with
  | nil => intro _ _; simp [keptAt]
  | cons x l ih =>
    intro hf hr
    have hf' : fine l := fun h hm => hf h (List.mem_cons_of_mem _ hm)
    have hr' := List.pairwise_cons.1 hr
    have ih' := ih hf' hr'.2
    have hx := (fine_iff.1 (hf x (List.mem_cons_self ..))).1
    rw [List.map_cons, List.sum_cons, keptAt_cons]
    rcases Int.lt_trichotomy (place x) (place h) with h1 | h1 | h1
    · have hne : ¬ (x.order = h.order ∧ x.line = h.line ∧ x.bin = h.bin) := fun he => by
        rw [place_congr he] at h1; omega
      rw [if_neg hne, List.filter_cons_of_pos (by simpa using h1), List.filter_cons_of_neg (by simp; omega), List.map_cons, List.sum_cons, ih']
      omega
    · obtain ⟨e1, e2, e3⟩ := place_inj hx hk h1
      have hlt : (l.filter fun x => decide (place x < place h)) = [] := filter_none fun y hy => by
        have := hr'.1 y hy
        simp; omega
      have h0 : keptAt l h.order h.line h.bin = 0 := keptAt_none fun y hy he => by
        have h2 := hr'.1 y hy
        rw [place_congr he] at h2
        omega
      rw [if_pos ⟨e1, e2, e3⟩, List.filter_cons_of_neg (by simp; omega), List.filter_cons_of_neg (by simp; omega), ih', hlt, h0, hF x, e1, e2, e3]
      simp
    · have hne : ¬ (x.order = h.order ∧ x.line = h.line ∧ x.bin = h.bin) := fun he => by
        rw [place_congr he] at h1; omega
      have hlt : (l.filter fun x => decide (place x < place h)) = [] := filter_none fun y hy => by
        have := hr'.1 y hy
        simp; omega
      rw [if_neg hne, List.filter_cons_of_neg (by simp; omega), List.filter_cons_of_pos (by simpa using h1), List.map_cons, List.sum_cons, ih', hlt]
      simp
      omega
theorem sum_with {l : List Hold} {h : Hold} (hl : holdsOk l = true) (hk : keyOk h.order h.line h.bin) (F : Hold → Int) (f : Int → Int → Int → Int) (hF : ∀ x, F x = f x.order x.line x.bin * x.n) :
    ((withHold l h).map F).sum = (l.map F).sum + f h.order h.line h.bin * (h.n - keptAt l h.order h.line h.bin) := by
  obtain ⟨hf, hr⟩ := holdsOk_iff.1 hl
  rw [sum_parts hk F f hF hf hr]
  unfold withHold
  rw [List.map_append, List.map_append, List.sum_append, List.sum_append, Int.mul_sub]
  by_cases h0 : h.n = 0
  · rw [if_pos h0, h0]
    simp
    omega
  · rw [if_neg h0]
    simp only [List.map_cons, List.map_nil, List.sum_cons, List.sum_nil, hF h]
    omega

-- orders and lines after a store
theorem orderAt_set {l : List Order} {o : Nat} (ho : o < l.length) (x : Order) (o' : Nat) : orderAt (l.set o x) o' = if o' = o then x else orderAt l o' := by
  unfold orderAt
  by_cases h : o' = o
  · subst h
    simp [ho]
  · rw [if_neg h]
    simp [Ne.symm h]
theorem lineAt_set {l : List Line} {k : Nat} (hk : k < l.length) (x : Line) (k' : Nat) : lineAt (l.set k x) k' = if k' = k then x else lineAt l k' := by
  unfold lineAt
  by_cases h : k' = k
  · subst h
    simp [hk]
  · rw [if_neg h]
    simp [Ne.symm h]
theorem order_setLine {s : State} {o : Nat} (ho : o < s.orders.length) (k : Nat) (y : Line) (o' : Nat) : (s.setLine o k y).order o' = if o' = o then { s.order o with lines := (s.order o).lines.set k y } else s.order o' := orderAt_set ho _ _
theorem line_setLine {s : State} {o k : Nat} (ho : o < s.orders.length) (hk : k < (s.order o).lines.length) (y : Line) (o' k' : Nat) : (s.setLine o k y).line o' k' = if o' = o ∧ k' = k then y else s.line o' k' := by
  unfold State.line
  rw [order_setLine ho]
  by_cases h : o' = o
  · subst h
    rw [if_pos rfl]
    simp only [true_and]
    exact lineAt_set hk _ _
  · rw [if_neg h, if_neg (fun h' => h h'.1)]
theorem orders_setLine (s : State) (o k : Nat) (y : Line) : (s.setLine o k y).orders.length = s.orders.length := by unfold State.setLine; simp
theorem kind_setLine {s : State} {o : Nat} (ho : o < s.orders.length) (k : Nat) (y : Line) (o' : Nat) : ((s.setLine o k y).order o').kind = (s.order o').kind := by
  rw [order_setLine ho]
  split
  · rename_i h; rw [h]
  · rfl
theorem lines_setLine {s : State} {o : Nat} (ho : o < s.orders.length) (k : Nat) (y : Line) (o' : Nat) : ((s.setLine o k y).order o').lines.length = (s.order o').lines.length := by
  rw [order_setLine ho]
  split
  · rename_i h; rw [h]; simp
  · rfl

/-- What is held hangs on the holds and the lines' goods alone. -/
theorem heldIn_congr {s t : State} (hh : t.holds = s.holds) (hg : ∀ o k, (t.line o k).good = (s.line o k).good) (b g : Int) : heldIn t b g = heldIn s b g := by
  unfold heldIn
  rw [hh]
  congr 1
  apply List.map_congr_left
  intro h _
  unfold heldN
  rw [hg]
theorem heldIn_with {s : State} {h : Hold} (hl : holdsOk s.holds = true) (hk : keyOk h.order h.line h.bin) (b g : Int) :
    heldIn { s with holds := withHold s.holds h } b g = heldIn s b g + if h.bin = b ∧ (s.line h.order.toNat h.line.toNat).good = g then h.n - keptAt s.holds h.order h.line h.bin else 0 := by
  have := sum_with hl hk (heldN s b g) (fun o ln b' => if b' = b ∧ (s.line o.toNat ln.toNat).good = g then 1 else 0) (fun x => by
    unfold heldN
    split <;> simp)
  have e : heldIn { s with holds := withHold s.holds h } b g = ((withHold s.holds h).map (heldN s b g)).sum := rfl
  rw [e, this]
  congr 1
  split <;> simp

/-- A state that is as it must be, but maybe that an order is to be closed. -/
structure Right (p : Plan) (s : State) : Prop where
  sane : Sane p s
  good : ∀ g, g < p.sizes.length → goodSummed p s g = true
  line : ∀ o k, o < s.orders.length → k < (s.order o).lines.length → lineSummed s o k = true

theorem check_iff {p : Plan} {s : State} : checkState p s = 0 ↔ Right p s ∧ ∀ o, o < s.orders.length → ¬ ((s.order o).kind = 1 ∧ allGot (s.order o) = true) := by
  rw [checkState_zero, summed_iff]
  constructor
  · rintro ⟨h1, h2, h3⟩
    exact ⟨⟨h1, h2, fun o k ho hk => (orderSummed_iff.1 (h3 o ho)).2 k hk⟩, fun o ho => (orderSummed_iff.1 (h3 o ho)).1⟩
  · rintro ⟨⟨h1, h2, h3⟩, h4⟩
    exact ⟨h1, h2, fun o ho => orderSummed_iff.2 ⟨h4 o ho, fun k hk => h3 o k ho hk⟩⟩
theorem right_of_check {p : Plan} {s : State} (h : checkState p s = 0) : Right p s := (check_iff.1 h).1

theorem mem_line {s : State} {o : Nat} {x : Line} (hx : x ∈ (s.order o).lines) : ∃ k, k < (s.order o).lines.length ∧ s.line o k = x := by
  obtain ⟨k, hk, rfl⟩ := List.getElem_of_mem hx
  exact ⟨k, hk, by unfold State.line; rw [lineAt_eq hk]⟩
/-- Built from what its parts are. -/
theorem Sane.of {p : Plan} {s : State} (h1 : checkShelf p s.on = 0) (h2 : s.orders.length ≤ 4) (h3 : s.moves.length ≤ 8) (h4 : ∀ o, o < s.orders.length → (1 ≤ (s.order o).lines.length ∧ (s.order o).lines.length ≤ 3) ∧ 0 ≤ (s.order o).kind ∧ (s.order o).kind ≤ 2)
    (h5 : ∀ o k, o < s.orders.length → k < (s.order o).lines.length → lineOk p (s.line o k) = true) (h6 : holdsOk s.holds = true) (h7 : ∀ x ∈ s.holds, holdIn p s x = true) (h8 : ∀ x ∈ s.moves, moveOk p x = true)
    (h9 : sumsOk p s.inn 0 = true) (h10 : sumsOk p s.out 0 = true) (h11 : sumsOk p s.fixed (-1048576) = true) : Sane p s := by
  refine ⟨h1, manyOk_iff.2 ⟨h2, h3, all_of dOrder fun o ho => within_iff.2 ?_⟩, formed_iff.2 ⟨all_of dOrder fun o ho => orderOk_iff.2 ⟨(h4 o ho).2, List.all_eq_true.2 fun x hx => ?_⟩, h6, List.all_eq_true.2 h7, List.all_eq_true.2 h8, h9, h10, h11⟩⟩
  · have := (h4 o ho).1
    unfold State.order orderAt at this
    omega
  · obtain ⟨k, hk, rfl⟩ := mem_line (s := s) (o := o) hx
    exact h5 o k ho hk
theorem Right.of {p : Plan} {s : State} (h : Sane p s) (h1 : ∀ g, g < p.sizes.length → sumOf s.on g = intAt s.inn g - intAt s.out g + intAt s.fixed g) (h2 : ∀ b g : Nat, b < p.bins.length → g < p.sizes.length → bound s b g ≤ cell s.on b g)
    (h3 : ∀ o k, o < s.orders.length → k < (s.order o).lines.length → lineSummed s o k = true) : Right p s :=
  ⟨h, fun g hg => goodSummed_iff.2 ⟨h1 g hg, fun b hb => h2 b g hb hg⟩, h3⟩

namespace Right
variable {p : Plan} {s : State} (h : Right p s)
include h
theorem sum {g : Nat} (hg : g < p.sizes.length) : sumOf s.on g = intAt s.inn g - intAt s.out g + intAt s.fixed g := (goodSummed_iff.1 (h.good g hg)).1
theorem bnd {b g : Nat} (hb : b < p.bins.length) (hg : g < p.sizes.length) : bound s b g ≤ cell s.on b g := (goodSummed_iff.1 (h.good g hg)).2 b hb
theorem lineSum {o k : Nat} (ho : o < s.orders.length) (hk : k < (s.order o).lines.length) : (s.line o k).got + (s.line o k).back + kept s.holds o k = (if (s.order o).kind = 0 then 0 else (s.line o k).want) ∧ ¬ ((s.order o).kind = 2 ∧ 0 < kept s.holds o k) := lineSummed_iff.1 (h.line o k ho hk)
theorem avail_range {b g : Nat} (hb : b < p.bins.length) (hg : g < p.sizes.length) : 0 ≤ avail s b g ∧ avail s b g ≤ cell s.on b g := by
  have h1 := h.bnd hb hg
  have h2 := bound_range h.sane b g
  unfold avail
  simp only [Int.toNat_natCast]
  omega
end Right

-- one more hold
section
variable {p : Plan} {s : State} {o k b : Nat} {m : Int}
theorem kept_pos {l : List Hold} (hl : holdsOk l = true) (o ln b : Int) : 0 ≤ keptAt l o ln b := (keptAt_range (holdsOk_iff.1 hl).1 (holdsOk_iff.1 hl).2 o ln b).1
theorem keptAt_held (hs : Sane p s) (o k b : Int) : keptAt s.holds o k b ≤ heldIn s b (s.line o.toNat k.toNat).good := by
  by_cases h0 : keptAt s.holds o k b = 0
  · rw [h0]
    have := heldTo_range hs b (s.line o.toNat k.toNat).good s.holds.length
    rw [heldTo_all] at this
    omega
  · obtain ⟨h1, h2⟩ := holdsOk_iff.1 hs.holds
    obtain ⟨hk, hm⟩ := keptAt_key h1 h2 h0
    have h3 : ∀ l : List Hold, (∀ x ∈ l, 1 ≤ x.n) → ∀ x ∈ l, heldN s b (s.line o.toNat k.toNat).good x ≤ (l.map (heldN s b (s.line o.toNat k.toNat).good)).sum ∧ 0 ≤ (l.map (heldN s b (s.line o.toNat k.toNat).good)).sum := by
      intro l
      induction l with
      | nil => simp
      | cons y l ih =>
        intro hn x hx
        have hy := hn y (by simp)
        have hyn : 0 ≤ heldN s b (s.line o.toNat k.toNat).good y := by unfold heldN; split <;> omega
        have hl0 : 0 ≤ (l.map (heldN s b (s.line o.toNat k.toNat).good)).sum := by
          cases l with
          | nil => simp
          | cons z l => exact (ih (fun x hx => hn x (by simp at hx ⊢; exact .inr hx)) z (by simp)).2
        rw [List.map_cons, List.sum_cons]
        rcases List.mem_cons.1 hx with rfl | hx
        · exact ⟨by omega, by omega⟩
        · have := ih (fun x hx => hn x (List.mem_cons_of_mem _ hx)) x hx
          omega
    have h4 := (h3 s.holds (fun x hx => (fine_iff.1 (h1 x hx)).2.1) _ hm).1
    have h5 : heldN s b (s.line o.toNat k.toNat).good ⟨o, k, b, keptAt s.holds o k b⟩ = keptAt s.holds o k b := by
      unfold heldN
      exact if_pos ⟨rfl, rfl⟩
    rw [h5] at h4
    exact h4
theorem goingOf_nonneg (hs : Sane p s) (b g : Int) : 0 ≤ goingOf s.moves b g := by
  have := goingTo_range hs b g s.moves.length
  rw [goingTo_all] at this
  exact this.1
theorem comingOf_nonneg (hs : Sane p s) (b g : Int) : 0 ≤ comingOf s.moves b g := by
  have := comingTo_range hs b g s.moves.length
  rw [comingTo_all] at this
  exact this.1
theorem key_of (hs : Sane p s) (ho : o < s.orders.length) (hk : k < (s.order o).lines.length) (hb : b < p.bins.length) : keyOk o k b := by
  have h4 := hs.orders4
  have h3 := hs.lines3 ho
  have hc := hs.counts
  unfold keyOk
  omega
/-- What one more hold needs. -/
structure Fits (p : Plan) (s : State) (o k b : Nat) (m : Int) : Prop where
  ho : o < s.orders.length
  hk : k < (s.order o).lines.length
  hb : b < p.bins.length
  kind : (s.order o).kind = 1
  m1 : 1 ≤ m
  av : m ≤ avail s b (s.line o k).good
  back : m ≤ (s.line o k).back
variable (h : Right p s) (f : Fits p s o k b m)
include h f
theorem fits_good : ((s.line o k).good.toNat : Int) = (s.line o k).good ∧ (s.line o k).good.toNat < p.sizes.length := by
  have := (h.sane.line f.ho f.hk).1
  omega
theorem fits_kept : 0 ≤ keptAt s.holds o k b ∧ keptAt s.holds o k b + m ≤ 200 := by
  obtain ⟨e, hg⟩ := fits_good h f
  have h1 := keptAt_held h.sane o k b
  have h2 := goingOf_nonneg h.sane b (s.line o k).good
  have h3 := f.av
  have h4 := h.sane.cell f.hb hg
  unfold avail bound at h3
  simp only [Int.toNat_natCast] at h1 h3
  exact ⟨kept_pos h.sane.holds _ _ _, by omega⟩
theorem hold1_holdsOk : holdsOk (hold1 s o k b m).holds = true := by
  have := fits_kept h f
  have hm := f.m1
  exact with_ok h.sane.holds (key_of h.sane f.ho f.hk f.hb) ⟨by show 0 ≤ keptAt s.holds o k b + m; omega, this.2⟩
theorem hold1_keptAt (o' k' b' : Int) : keptAt (hold1 s o k b m).holds o' k' b' = keptAt s.holds o' k' b' + if (o : Int) = o' ∧ (k : Int) = k' ∧ (b : Int) = b' then m else 0 := by
  have := fits_kept h f
  have hm := f.m1
  have e := keptAt_with (h := ⟨o, k, b, keptAt s.holds o k b + m⟩) h.sane.holds (key_of h.sane f.ho f.hk f.hb) ⟨by show 0 ≤ keptAt s.holds o k b + m; omega, this.2⟩ o' k' b'
  refine e.trans ?_
  simp only
  split
  · rename_i hq
    obtain ⟨rfl, rfl, rfl⟩ := hq
    rfl
  · omega
theorem hold1_kept (o' k' : Int) : kept (hold1 s o k b m).holds o' k' = kept s.holds o' k' + if (o : Int) = o' ∧ (k : Int) = k' then m else 0 := by
  have := fits_kept h f
  have hm := f.m1
  have e := kept_with (h := ⟨o, k, b, keptAt s.holds o k b + m⟩) h.sane.holds (key_of h.sane f.ho f.hk f.hb) ⟨by show 0 ≤ keptAt s.holds o k b + m; omega, this.2⟩ o' k'
  refine e.trans ?_
  simp only
  congr 1
  split <;> omega
omit h in
theorem hold1_line (o' k' : Nat) : (hold1 s o k b m).line o' k' = if o' = o ∧ k' = k then { s.line o k with back := (s.line o k).back - m } else s.line o' k' :=
  line_setLine (s := { s with holds := withHold s.holds ⟨o, k, b, keptAt s.holds o k b + m⟩ }) f.ho f.hk _ o' k'
omit h in
theorem hold1_kind (o' : Nat) : ((hold1 s o k b m).order o').kind = (s.order o').kind := kind_setLine (s := { s with holds := withHold s.holds ⟨o, k, b, keptAt s.holds o k b + m⟩ }) f.ho _ _ _
omit h in
theorem hold1_lines (o' : Nat) : ((hold1 s o k b m).order o').lines.length = (s.order o').lines.length := lines_setLine (s := { s with holds := withHold s.holds ⟨o, k, b, keptAt s.holds o k b + m⟩ }) f.ho _ _ _
omit h f in
theorem hold1_orders : (hold1 s o k b m).orders.length = s.orders.length := orders_setLine _ _ _ _
omit h in
theorem hold1_fixedLine (o' k' : Nat) : ((hold1 s o k b m).line o' k').good = (s.line o' k').good ∧ ((hold1 s o k b m).line o' k').want = (s.line o' k').want ∧ ((hold1 s o k b m).line o' k').got = (s.line o' k').got := by
  rw [hold1_line f]
  split
  · rename_i hq
    obtain ⟨rfl, rfl⟩ := hq
    exact ⟨rfl, rfl, rfl⟩
  · exact ⟨rfl, rfl, rfl⟩
theorem hold1_bound (b' g : Int) : bound (hold1 s o k b m) b' g = bound s b' g + if (b : Int) = b' ∧ (s.line o k).good = g then m else 0 := by
  have e1 : heldIn (hold1 s o k b m) b' g = heldIn { s with holds := withHold s.holds ⟨o, k, b, keptAt s.holds o k b + m⟩ } b' g :=
    heldIn_congr (s := { s with holds := withHold s.holds ⟨o, k, b, keptAt s.holds o k b + m⟩ }) (t := hold1 s o k b m) rfl (fun o' k' => (hold1_fixedLine f o' k').1) b' g
  have e2 := heldIn_with (s := s) (h := ⟨o, k, b, keptAt s.holds o k b + m⟩) h.sane.holds (key_of h.sane f.ho f.hk f.hb) b' g
  unfold bound
  rw [e1, e2]
  simp only [Int.toNat_natCast]
  have : goingOf (hold1 s o k b m).moves b' g = goingOf s.moves b' g := rfl
  rw [this]
  split <;> omega
theorem hold1_avail (b' : Nat) (g : Int) : avail (hold1 s o k b m) b' g = avail s b' g - if b = b' ∧ (s.line o k).good = g then m else 0 := by
  unfold avail
  rw [hold1_bound h f]
  have : (hold1 s o k b m).on = s.on := rfl
  rw [this]
  simp only [Int.natCast_inj]
  omega
theorem hold1_right : Right p (hold1 s o k b m) := by
  obtain ⟨e, hg⟩ := fits_good h f
  have hm := f.m1
  have hbk := f.back
  have hav := f.av
  refine Right.of (Sane.of h.sane.shelf (by rw [hold1_orders]; exact h.sane.orders4) h.sane.moves8 (fun o' ho' => ?_) (fun o' k' ho' hk' => ?_) (hold1_holdsOk h f) (fun x hx => ?_) (fun x hx => List.all_eq_true.1 (formed_iff.1 h.sane.form).2.2.2.1 x hx)
    (formed_iff.1 h.sane.form).2.2.2.2.1 (formed_iff.1 h.sane.form).2.2.2.2.2.1 (formed_iff.1 h.sane.form).2.2.2.2.2.2) (fun g hg => h.sum hg) (fun b' g hb' hg' => ?_) (fun o' k' ho' hk' => ?_)
  · rw [hold1_orders] at ho'
    rw [hold1_lines f, hold1_kind f]
    exact ⟨h.sane.lines3 ho', h.sane.kind ho'⟩
  · rw [hold1_orders] at ho'
    rw [hold1_lines f] at hk'
    have hl := h.sane.line ho' hk'
    rw [hold1_line f, lineOk_iff]
    split
    · rename_i hq
      obtain ⟨rfl, rfl⟩ := hq
      simp only
      omega
    · exact hl
  · have hin : holdIn p s x = true := by
      rcases with_mem.1 hx with ⟨h1, _⟩ | ⟨rfl, _⟩
      · exact List.all_eq_true.1 (formed_iff.1 h.sane.form).2.2.1 x h1
      · refine holdIn_iff.2 ⟨?_, ?_, ?_⟩
        · have := f.ho; show (o : Int) < _; omega
        · have := f.hk; show (k : Int) < _; simp only [Int.toNat_natCast]; omega
        · have := f.hb; show (b : Int) < _; omega
    have := holdIn_iff.1 hin
    exact holdIn_iff.2 ⟨by rw [hold1_orders]; exact this.1, by rw [hold1_lines f]; exact this.2.1, this.2.2⟩
  · have h1 := h.bnd hb' hg'
    rw [hold1_bound h f]
    have : (hold1 s o k b m).on = s.on := rfl
    rw [this]
    split
    · rename_i hq
      obtain ⟨hq1, hq2⟩ := hq
      have hbb : b = b' := by omega
      subst hbb
      rw [hq2] at hav
      unfold avail at hav
      simp only [Int.toNat_natCast] at hav
      omega
    · omega
  · rw [hold1_orders] at ho'
    rw [hold1_lines f] at hk'
    obtain ⟨l1, l2⟩ := h.lineSum ho' hk'
    obtain ⟨g1, g2, g3⟩ := hold1_fixedLine (m := m) f o' k'
    refine lineSummed_iff.2 ?_
    rw [g2, g3, hold1_kept h f, hold1_kind f]
    have hb2 : ((hold1 s o k b m).line o' k').back = (s.line o' k').back - if (o : Int) = o' ∧ (k : Int) = k' then m else 0 := by
      rw [hold1_line f]
      by_cases hq : o' = o ∧ k' = k
      · obtain ⟨rfl, rfl⟩ := hq
        simp
      · rw [if_neg hq, if_neg (by omega)]
        omega
    rw [hb2]
    refine ⟨by omega, ?_⟩
    rintro ⟨hk2, hpos⟩
    by_cases hq : (o : Int) = o' ∧ (k : Int) = k'
    · have : o = o' := by omega
      subst this
      have := f.kind
      omega
    · rw [if_neg hq] at hpos
      exact l2 ⟨hk2, by omega⟩
end
end Wh
namespace Wh

theorem shelfError_right {p : Plan} {on : List (List Int)} {b g : Int} (h : checkShelf p on = 0) : shelfError p on b g = if isBin p b && isGood p g then 0 else 3 := by
  unfold shelfError
  rw [if_neg (fun hn => hn h)]

theorem put_true {p : Plan} {on : List (List Int)} {b g n : Int} (h : (put p on b g n).2 = 0) :
    checkShelf p (put p on b g n).1 = 0 ∧ shelfError p on 0 g = 0 ∧ shelfError p (put p on b g n).1 0 g = 0 ∧ (∀ o, shelfError p (put p on b g n).1 o 0 = shelfError p on o 0) ∧
    sumE p (put p on b g n).1 g = sumE p on g + n ∧ (∀ o, o ≠ b → usedE p (put p on b g n).1 o = usedE p on o) ∧ put p (put p on b g n).1 b g (-n) = (on, 0) ∧ (-200 ≤ n ∧ n ≤ 200) := by
  obtain ⟨h1, h2, h3, h4, h5, h6⟩ := put_right h
  rw [h6]
  clear h h6
  have hb := isBin_iff.1 h2
  have hg := isGood_iff.1 h3
  have hl := right_len h1
  have hp := (checkShelf_zero.1 h1).1
  have hok := (checkShelf_zero.1 h1).2
  obtain ⟨hc1, hc2, hc3, hc4⟩ := right_counts hp
  have eb : ((b.toNat : Nat) : Int) = b := Int.toNat_of_nonneg hb.1
  have eg : ((g.toNat : Nat) : Int) = g := Int.toNat_of_nonneg hg.1
  have hbn : b.toNat < p.bins.length := by omega
  have hbo : b.toNat < on.length := by omega
  have hgn : g.toNat < p.sizes.length := by omega
  have hrow := right_row h1 hbo
  have hcell := right_cell h1 hbo hgn
  have hx : checkShelf p (setCell on b.toNat g.toNat (cell on b.toNat g.toNat + n)) = 0 :=
    checkShelf_zero.2 ⟨hp, setCell_ok hok (by omega) hbn hgn⟩
  have hcs : ∀ b' g', cell (setCell on b.toNat g.toNat (cell on b.toNat g.toNat + n)) b' g' = if b' = b.toNat ∧ g' = g.toNat then cell on b.toNat g.toNat + n else cell on b' g' := fun b' g' =>
    cell_set hbo (by rw [hrow]; exact hgn)
  have e0 : ∀ {l}, checkShelf p l = 0 → shelfError p l 0 g = 0 := fun hq => shelfError_zero.2 ⟨hq, isBin_iff.2 ⟨by omega, by omega⟩, h3⟩
  refine ⟨hx, e0 h1, e0 hx, fun o => ?_, ?_, fun o ho => ?_, ?_, by omega⟩
  · rw [shelfError_right hx, shelfError_right h1]
  · unfold sumE
    rw [if_pos (e0 hx), if_pos (e0 h1)]
    unfold sumOf
    rw [length_setCell]
    refine sumTo_one (i := b.toNat) hbo (fun k _ hk => ?_) ?_
    · rw [hcs, if_neg (by rintro ⟨e, _⟩; exact hk e)]
    · rw [hcs, if_pos ⟨rfl, rfl⟩]
  · unfold usedE
    have hse : shelfError p (setCell on b.toNat g.toNat (cell on b.toNat g.toNat + n)) o 0 = shelfError p on o 0 := by
      rw [shelfError_right hx, shelfError_right h1]
    rw [hse]
    by_cases hs : shelfError p on o 0 = 0
    · rw [if_pos hs, if_pos hs]
      have ho' := isBin_iff.1 (shelfError_zero.1 hs).2.1
      unfold usedOf
      refine sumTo_congr fun k _ => ?_
      rw [hcs, if_neg (by rintro ⟨e, _⟩; omega)]
    · rw [if_neg hs, if_neg hs]
  · have hse : shelfError p (setCell on b.toNat g.toNat (cell on b.toNat g.toNat + n)) b g = 0 := shelfError_zero.2 ⟨hx, h2, h3⟩
    have hcx : cell (setCell on b.toNat g.toNat (cell on b.toNat g.toNat + n)) b.toNat g.toNat = cell on b.toNat g.toNat + n := by rw [hcs, if_pos ⟨rfl, rfl⟩]
    unfold put
    rw [if_neg (fun hn => hn hse), hcx, if_neg (by rw [within_iff.2 ⟨by omega, by omega⟩]; simp)]
    rw [show cell on b.toNat g.toNat + n + -n = cell on b.toNat g.toNat by omega, setCell_back hbo (by rw [hrow]; exact hgn) rfl]
theorem sumE_range (p : Plan) (on : List (List Int)) (g : Int) : 0 ≤ sumE p on g ∧ sumE p on g ≤ 1200 := by
  unfold sumE
  by_cases h : shelfError p on 0 g = 0
  · rw [if_pos h]
    obtain ⟨h1, h2, h3⟩ := shelfError_zero.1 h
    have hg := isGood_iff.1 h3
    have hl := right_len h1
    obtain ⟨hc1, hc2, hc3, hc4⟩ := right_counts (checkShelf_zero.1 h1).1
    have hs := sum_range h1 (g := g.toNat) (by omega) (k := on.length) (Nat.le_refl _)
    unfold sumOf
    omega
  · rw [if_neg h]; omega
end Wh
