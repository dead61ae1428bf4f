/- Texts of the claim, joined: PlainH, PlainI, PlainJ, PlainN. -/
import Derived.Test.YtfhfkijmebhgmaaGreatQ06
import Derived.Test.YtfhfkijmebhgmaaGreatQ02
namespace Wh

theorem keptAt_cons (x : Hold) (l : List Hold) (o ln b : Int) : keptAt (x :: l) o ln b = if x.order = o ∧ x.line = ln ∧ x.bin = b then x.n else keptAt l o ln b := by
  unfold keptAt
  rw [List.find?_cons]
  by_cases hk : x.order = o ∧ x.line = ln ∧ x.bin = b
  · rw [if_pos hk, sameKey_iff.2 hk]
  · rw [if_neg hk, show sameKey o ln b x = false by rw [← Bool.not_eq_true, sameKey_iff]; exact hk]
theorem filter_none {α : Type} {p : α → Bool} {l : List α} (h : ∀ x ∈ l, p x = false) : l.filter p = [] := List.filter_eq_nil_iff.2 fun x hx => by rw [h x hx]; simp
/-- Right holds in three parts: before a place, there, behind it. -/
theorem sum_parts {h : Hold} (hk : keyOk h.order h.line h.bin) (F : Hold → Int) (f : Int → Int → Int → Int) (hF : ∀ x, F x = f x.order x.line x.bin * x.n) : ∀ {l : List Hold}, fine l → rises l →
    (l.map F).sum = ((l.filter fun x => decide (place x < place h)).map F).sum + f h.order h.line h.bin * keptAt l h.order h.line h.bin + ((l.filter fun x => decide (place h < place x)).map F).sum := by
  intro l
  induction l with
  | nil => intro _ _; simp [keptAt]
  | cons x l ih =>
    intro hf hr
    have hf' : fine l := fun h hm => hf h (List.mem_cons_of_mem _ hm)
    have hr' := List.pairwise_cons.1 hr
    have ih' := ih hf' hr'.2
    have hx := (fine_iff.1 (hf x (List.mem_cons_self ..))).1
    rw [List.map_cons, List.sum_cons, keptAt_cons]
    rcases Int.lt_trichotomy (place x) (place h) with h1 | h1 | h1
    · have hne : ¬ (x.order = h.order ∧ x.line = h.line ∧ x.bin = h.bin) := fun he => by
        rw [place_congr he] at h1; omega
      rw [if_neg hne, List.filter_cons_of_pos (by simpa using h1), List.filter_cons_of_neg (by simp; omega), List.map_cons, List.sum_cons, ih']
      omega
    · obtain ⟨e1, e2, e3⟩ := place_inj hx hk h1
      have hlt : (l.filter fun x => decide (place x < place h)) = [] := filter_none fun y hy => by
        have := hr'.1 y hy
        simp; omega
      have h0 : keptAt l h.order h.line h.bin = 0 := keptAt_none fun y hy he => by
        have h2 := hr'.1 y hy
        rw [place_congr he] at h2
        omega
      rw [if_pos ⟨e1, e2, e3⟩, List.filter_cons_of_neg (by simp; omega), List.filter_cons_of_neg (by simp; omega), ih', hlt, h0, hF x, e1, e2, e3]
      simp
    · have hne : ¬ (x.order = h.order ∧ x.line = h.line ∧ x.bin = h.bin) := fun he => by
        rw [place_congr he] at h1; omega
      have hlt : (l.filter fun x => decide (place x < place h)) = [] := filter_none fun y hy => by
        have := hr'.1 y hy
        simp; omega
      rw [if_neg hne, List.filter_cons_of_neg (by simp; omega), List.filter_cons_of_pos (by simpa using h1), List.map_cons, List.sum_cons, ih', hlt]
      simp
      omega
theorem sum_with {l : List Hold} {h : Hold} (hl : holdsOk l = true) (hk : keyOk h.order h.line h.bin) (F : Hold → Int) (f : Int → Int → Int → Int) (hF : ∀ x, F x = f x.order x.line x.bin * x.n) :
    ((withHold l h).map F).sum = (l.map F).sum + f h.order h.line h.bin * (h.n - keptAt l h.order h.line h.bin) := by
  obtain ⟨hf, hr⟩ := holdsOk_iff.1 hl
  rw [sum_parts hk F f hF hf hr]
  unfold withHold
  rw [List.map_append, List.map_append, List.sum_append, List.sum_append, Int.mul_sub]
  by_cases h0 : h.n = 0
  · rw [if_pos h0, h0]
    simp
    omega
  · rw [if_neg h0]
    simp only [List.map_cons, List.map_nil, List.sum_cons, List.sum_nil, hF h]
    omega

-- orders and lines after a store
theorem orderAt_set {l : List Order} {o : Nat} (ho : o < l.length) (x : Order) (o' : Nat) : orderAt (l.set o x) o' = if o' = o then x else orderAt l o' := by
  unfold orderAt
  by_cases h : o' = o
  · subst h
    simp [ho]
  · rw [if_neg h]
    simp [Ne.symm h]
theorem lineAt_set {l : List Line} {k : Nat} (hk : k < l.length) (x : Line) (k' : Nat) : lineAt (l.set k x) k' = if k' = k then x else lineAt l k' := by
  unfold lineAt
  by_cases h : k' = k
  · subst h
    simp [hk]
  · rw [if_neg h]
    simp [Ne.symm h]
theorem order_setLine {s : State} {o : Nat} (ho : o < s.orders.length) (k : Nat) (y : Line) (o' : Nat) : (s.setLine o k y).order o' = if o' = o then { s.order o with lines := (s.order o).lines.set k y } else s.order o' := orderAt_set ho _ _
theorem line_setLine {s : State} {o k : Nat} (ho : o < s.orders.length) (hk : k < (s.order o).lines.length) (y : Line) (o' k' : Nat) : (s.setLine o k y).line o' k' = if o' = o ∧ k' = k then y else s.line o' k' := by
  unfold State.line
  rw [order_setLine ho]
  by_cases h : o' = o
  · subst h
    rw [if_pos rfl]
    simp only [true_and]
    exact lineAt_set hk _ _
  · rw [if_neg h, if_neg (fun h' => h h'.1)]
theorem orders_setLine (s : State) (o k : Nat) (y : Line) : (s.setLine o k y).orders.length = s.orders.length := by unfold State.setLine; simp
theorem kind_setLine {s : State} {o : Nat} (ho : o < s.orders.length) (k : Nat) (y : Line) (o' : Nat) : ((s.setLine o k y).order o').kind = (s.order o').kind := by
  rw [order_setLine ho]
  split
  · rename_i h; rw [h]
  · rfl
theorem lines_setLine {s : State} {o : Nat} (ho : o < s.orders.length) (k : Nat) (y : Line) (o' : Nat) : ((s.setLine o k y).order o').lines.length = (s.order o').lines.length := by
  rw [order_setLine ho]
  split
  · rename_i h; rw [h]; simp
  · rfl

/-- What is held hangs on the holds and the lines' goods alone. -/
theorem heldIn_congr {s t : State} (hh : t.holds = s.holds) (hg : ∀ o k, (t.line o k).good = (s.line o k).good) (b g : Int) : heldIn t b g = heldIn s b g := by
  unfold heldIn
  rw [hh]
  congr 1
  apply List.map_congr_left
  intro h _
  unfold heldN
  rw [hg]
theorem heldIn_with {s : State} {h : Hold} (hl : holdsOk s.holds = true) (hk : keyOk h.order h.line h.bin) (b g : Int) :
    heldIn { s with holds := withHold s.holds h } b g = heldIn s b g + if h.bin = b ∧ (s.line h.order.toNat h.line.toNat).good = g then h.n - keptAt s.holds h.order h.line h.bin else 0 := by
  have := sum_with hl hk (heldN s b g) (fun o ln b' => if b' = b ∧ (s.line o.toNat ln.toNat).good = g then 1 else 0) (fun x => by
    unfold heldN
    split <;> simp)
  have e : heldIn { s with holds := withHold s.holds h } b g = ((withHold s.holds h).map (heldN s b g)).sum := rfl
  rw [e, this]
  congr 1
  split <;> simp

/-- A state that is as it must be, but maybe that an order is to be closed. -/
structure Right (p : Plan) (s : State) : Prop where
  sane : Sane p s
  good : ∀ g, g < p.sizes.length → goodSummed p s g = true
  line : ∀ o k, o < s.orders.length → k < (s.order o).lines.length → lineSummed s o k = true

theorem check_iff {p : Plan} {s : State} : checkState p s = 0 ↔ Right p s ∧ ∀ o, o < s.orders.length → ¬ ((s.order o).kind = 1 ∧ allGot (s.order o) = true) := by
  rw [checkState_zero, summed_iff]
  constructor
  · rintro ⟨h1, h2, h3⟩
    exact ⟨⟨h1, h2, fun o k ho hk => (orderSummed_iff.1 (h3 o ho)).2 k hk⟩, fun o ho => (orderSummed_iff.1 (h3 o ho)).1⟩
  · rintro ⟨⟨h1, h2, h3⟩, h4⟩
    exact ⟨h1, h2, fun o ho => orderSummed_iff.2 ⟨h4 o ho, fun k hk => h3 o k ho hk⟩⟩
theorem right_of_check {p : Plan} {s : State} (h : checkState p s = 0) : Right p s := (check_iff.1 h).1

theorem mem_line {s : State} {o : Nat} {x : Line} (hx : x ∈ (s.order o).lines) : ∃ k, k < (s.order o).lines.length ∧ s.line o k = x := by
  obtain ⟨k, hk, rfl⟩ := List.getElem_of_mem hx
  exact ⟨k, hk, by unfold State.line; rw [lineAt_eq hk]⟩
/-- Built from what its parts are. -/
theorem Sane.of {p : Plan} {s : State} (h1 : checkShelf p s.on = 0) (h2 : s.orders.length ≤ 4) (h3 : s.moves.length ≤ 8) (h4 : ∀ o, o < s.orders.length → (1 ≤ (s.order o).lines.length ∧ (s.order o).lines.length ≤ 3) ∧ 0 ≤ (s.order o).kind ∧ (s.order o).kind ≤ 2)
    (h5 : ∀ o k, o < s.orders.length → k < (s.order o).lines.length → lineOk p (s.line o k) = true) (h6 : holdsOk s.holds = true) (h7 : ∀ x ∈ s.holds, holdIn p s x = true) (h8 : ∀ x ∈ s.moves, moveOk p x = true)
    (h9 : sumsOk p s.inn 0 = true) (h10 : sumsOk p s.out 0 = true) (h11 : sumsOk p s.fixed (-1048576) = true) : Sane p s := by
  refine ⟨h1, manyOk_iff.2 ⟨h2, h3, all_of dOrder fun o ho => within_iff.2 ?_⟩, formed_iff.2 ⟨all_of dOrder fun o ho => orderOk_iff.2 ⟨(h4 o ho).2, List.all_eq_true.2 fun x hx => ?_⟩, h6, List.all_eq_true.2 h7, List.all_eq_true.2 h8, h9, h10, h11⟩⟩
  · have := (h4 o ho).1
    unfold State.order orderAt at this
    omega
  · obtain ⟨k, hk, rfl⟩ := mem_line (s := s) (o := o) hx
    exact h5 o k ho hk
theorem Right.of {p : Plan} {s : State} (h : Sane p s) (h1 : ∀ g, g < p.sizes.length → sumOf s.on g = intAt s.inn g - intAt s.out g + intAt s.fixed g) (h2 : ∀ b g : Nat, b < p.bins.length → g < p.sizes.length → bound s b g ≤ cell s.on b g)
    (h3 : ∀ o k, o < s.orders.length → k < (s.order o).lines.length → lineSummed s o k = true) : Right p s :=
  ⟨h, fun g hg => goodSummed_iff.2 ⟨h1 g hg, fun b hb => h2 b g hb hg⟩, h3⟩

namespace Right
variable {p : Plan} {s : State} (h : Right p s)
include h
theorem sum {g : Nat} (hg : g < p.sizes.length) : sumOf s.on g = intAt s.inn g - intAt s.out g + intAt s.fixed g := (goodSummed_iff.1 (h.good g hg)).1
theorem bnd {b g : Nat} (hb : b < p.bins.length) (hg : g < p.sizes.length) : bound s b g ≤ cell s.on b g := (goodSummed_iff.1 (h.good g hg)).2 b hb
theorem lineSum {o k : Nat} (ho : o < s.orders.length) (hk : k < (s.order o).lines.length) : (s.line o k).got + (s.line o k).back + kept s.holds o k = (if (s.order o).kind = 0 then 0 else (s.line o k).want) ∧ ¬ ((s.order o).kind = 2 ∧ 0 < kept s.holds o k) := lineSummed_iff.1 (h.line o k ho hk)
theorem avail_range {b g : Nat} (hb : b < p.bins.length) (hg : g < p.sizes.length) : 0 ≤ avail s b g ∧ avail s b g ≤ cell s.on b g := by
  have h1 := h.bnd hb hg
  have h2 := bound_range h.sane b g
  unfold avail
  simp only [Int.toNat_natCast]
  omega
end Right

-- one more hold
section
variable {p : Plan} {s : State} {o k b : Nat} {m : Int}
theorem kept_pos {l : List Hold} (hl : holdsOk l = true) (o ln b : Int) : 0 ≤ keptAt l o ln b := (keptAt_range (holdsOk_iff.1 hl).1 (holdsOk_iff.1 hl).2 o ln b).1
theorem keptAt_held (hs : Sane p s) (o k b : Int) : keptAt s.holds o k b ≤ heldIn s b (s.line o.toNat k.toNat).good := by
  by_cases h0 : keptAt s.holds o k b = 0
  · rw [h0]
    have := heldTo_range hs b (s.line o.toNat k.toNat).good s.holds.length
    rw [heldTo_all] at this
    omega
  · obtain ⟨h1, h2⟩ := holdsOk_iff.1 hs.holds
    obtain ⟨hk, hm⟩ := keptAt_key h1 h2 h0
    have h3 : ∀ l : List Hold, (∀ x ∈ l, 1 ≤ x.n) → ∀ x ∈ l, heldN s b (s.line o.toNat k.toNat).good x ≤ (l.map (heldN s b (s.line o.toNat k.toNat).good)).sum ∧ 0 ≤ (l.map (heldN s b (s.line o.toNat k.toNat).good)).sum := by
      intro l
      induction l with
      | nil => simp
      | cons y l ih =>
        intro hn x hx
        have hy := hn y (by simp)
        have hyn : 0 ≤ heldN s b (s.line o.toNat k.toNat).good y := by unfold heldN; split <;> omega
        have hl0 : 0 ≤ (l.map (heldN s b (s.line o.toNat k.toNat).good)).sum := by
          cases l with
          | nil => simp
          | cons z l => exact (ih (fun x hx => hn x (by simp at hx ⊢; exact .inr hx)) z (by simp)).2
        rw [List.map_cons, List.sum_cons]
        rcases List.mem_cons.1 hx with rfl | hx
        · exact ⟨by omega, by omega⟩
        · have := ih (fun x hx => hn x (List.mem_cons_of_mem _ hx)) x hx
          omega
    have h4 := (h3 s.holds (fun x hx => (fine_iff.1 (h1 x hx)).2.1) _ hm).1
    have h5 : heldN s b (s.line o.toNat k.toNat).good ⟨o, k, b, keptAt s.holds o k b⟩ = keptAt s.holds o k b := by
      unfold heldN
      exact if_pos ⟨rfl, rfl⟩
    rw [h5] at h4
    exact h4
theorem goingOf_nonneg (hs : Sane p s) (b g : Int) : 0 ≤ goingOf s.moves b g := by
  have := goingTo_range hs b g s.moves.length
  rw [goingTo_all] at this
  exact this.1
theorem key_of (hs : Sane p s) (ho : o < s.orders.length) (hk : k < (s.order o).lines.length) (hb : b < p.bins.length) : keyOk o k b := by
  have h4 := hs.orders4
  have h3 := hs.lines3 ho
  have hc := hs.counts
  unfold keyOk
  omega
/-- What one more hold needs. -/
structure Fits (p : Plan) (s : State) (o k b : Nat) (m : Int) : Prop where
  ho : o < s.orders.length
  hk : k < (s.order o).lines.length
  hb : b < p.bins.length
  kind : (s.order o).kind = 1
  m1 : 1 ≤ m
  av : m ≤ avail s b (s.line o k).good
  back : m ≤ (s.line o k).back
variable (h : Right p s) (f : Fits p s o k b m)
include h f
theorem fits_good : ((s.line o k).good.toNat : Int) = (s.line o k).good ∧ (s.line o k).good.toNat < p.sizes.length := by
  have := (h.sane.line f.ho f.hk).1
  omega
theorem fits_kept : 0 ≤ keptAt s.holds o k b ∧ keptAt s.holds o k b + m ≤ 200 := by
  obtain ⟨e, hg⟩ := fits_good h f
  have h1 := keptAt_held h.sane o k b
  have h2 := goingOf_nonneg h.sane b (s.line o k).good
  have h3 := f.av
  have h4 := h.sane.cell f.hb hg
  unfold avail bound at h3
  simp only [Int.toNat_natCast] at h1 h3
  exact ⟨kept_pos h.sane.holds _ _ _, by omega⟩
theorem hold1_holdsOk : holdsOk (hold1 s o k b m).holds = true := by
  have := fits_kept h f
  have hm := f.m1
  exact with_ok h.sane.holds (key_of h.sane f.ho f.hk f.hb) ⟨by show 0 ≤ keptAt s.holds o k b + m; omega, this.2⟩
theorem hold1_keptAt (o' k' b' : Int) : keptAt (hold1 s o k b m).holds o' k' b' = keptAt s.holds o' k' b' + if (o : Int) = o' ∧ (k : Int) = k' ∧ (b : Int) = b' then m else 0 := by
  have := fits_kept h f
  have hm := f.m1
  have e := keptAt_with (h := ⟨o, k, b, keptAt s.holds o k b + m⟩) h.sane.holds (key_of h.sane f.ho f.hk f.hb) ⟨by show 0 ≤ keptAt s.holds o k b + m; omega, this.2⟩ o' k' b'
  refine e.trans ?_
  simp only
  split
  · rename_i hq
    obtain ⟨rfl, rfl, rfl⟩ := hq
    rfl
  · omega
theorem hold1_kept (o' k' : Int) : kept (hold1 s o k b m).holds o' k' = kept s.holds o' k' + if (o : Int) = o' ∧ (k : Int) = k' then m else 0 := by
  have := fits_kept h f
  have hm := f.m1
  have e := kept_with (h := ⟨o, k, b, keptAt s.holds o k b + m⟩) h.sane.holds (key_of h.sane f.ho f.hk f.hb) ⟨by show 0 ≤ keptAt s.holds o k b + m; omega, this.2⟩ o' k'
  refine e.trans ?_
  simp only
  congr 1
  split <;> omega
omit h in
theorem hold1_line (o' k' : Nat) : (hold1 s o k b m).line o' k' = if o' = o ∧ k' = k then { s.line o k with back := (s.line o k).back - m } else s.line o' k' :=
  line_setLine (s := { s with holds := withHold s.holds ⟨o, k, b, keptAt s.holds o k b + m⟩ }) f.ho f.hk _ o' k'
omit h in
theorem hold1_kind (o' : Nat) : ((hold1 s o k b m).order o').kind = (s.order o').kind := kind_setLine (s := { s with holds := withHold s.holds ⟨o, k, b, keptAt s.holds o k b + m⟩ }) f.ho _ _ _
omit h in
theorem hold1_lines (o' : Nat) : ((hold1 s o k b m).order o').lines.length = (s.order o').lines.length := lines_setLine (s := { s with holds := withHold s.holds ⟨o, k, b, keptAt s.holds o k b + m⟩ }) f.ho _ _ _
omit h f in
theorem hold1_orders : (hold1 s o k b m).orders.length = s.orders.length := orders_setLine _ _ _ _
omit h in
theorem hold1_fixedLine (o' k' : Nat) : ((hold1 s o k b m).line o' k').good = (s.line o' k').good ∧ ((hold1 s o k b m).line o' k').want = (s.line o' k').want ∧ ((hold1 s o k b m).line o' k').got = (s.line o' k').got := by
  rw [hold1_line f]
  split
  · rename_i hq
    obtain ⟨rfl, rfl⟩ := hq
    exact ⟨rfl, rfl, rfl⟩
  · exact ⟨rfl, rfl, rfl⟩
theorem hold1_bound (b' g : Int) : bound (hold1 s o k b m) b' g = bound s b' g + if (b : Int) = b' ∧ (s.line o k).good = g then m else 0 := by
  have e1 : heldIn (hold1 s o k b m) b' g = heldIn { s with holds := withHold s.holds ⟨o, k, b, keptAt s.holds o k b + m⟩ } b' g :=
    heldIn_congr (s := { s with holds := withHold s.holds ⟨o, k, b, keptAt s.holds o k b + m⟩ }) (t := hold1 s o k b m) rfl (fun o' k' => (hold1_fixedLine f o' k').1) b' g
  have e2 := heldIn_with (s := s) (h := ⟨o, k, b, keptAt s.holds o k b + m⟩) h.sane.holds (key_of h.sane f.ho f.hk f.hb) b' g
  unfold bound
  rw [e1, e2]
  simp only [Int.toNat_natCast]
  have : goingOf (hold1 s o k b m).moves b' g = goingOf s.moves b' g := rfl
  rw [this]
  split <;> omega
theorem hold1_right : Right p (hold1 s o k b m) := by
  obtain ⟨e, hg⟩ := fits_good h f
  have hm := f.m1
  have hbk := f.back
  have hav := f.av
  refine Right.of (Sane.of h.sane.shelf (by rw [hold1_orders]; exact h.sane.orders4) h.sane.moves8 (fun o' ho' => ?_) (fun o' k' ho' hk' => ?_) (hold1_holdsOk h f) (fun x hx => ?_) (fun x hx => List.all_eq_true.1 (formed_iff.1 h.sane.form).2.2.2.1 x hx)
    (formed_iff.1 h.sane.form).2.2.2.2.1 (formed_iff.1 h.sane.form).2.2.2.2.2.1 (formed_iff.1 h.sane.form).2.2.2.2.2.2) (fun g hg => h.sum hg) (fun b' g hb' hg' => ?_) (fun o' k' ho' hk' => ?_)
  · rw [hold1_orders] at ho'
    rw [hold1_lines f, hold1_kind f]
    exact ⟨h.sane.lines3 ho', h.sane.kind ho'⟩
  · rw [hold1_orders] at ho'
    rw [hold1_lines f] at hk'
    have hl := h.sane.line ho' hk'
    rw [hold1_line f, lineOk_iff]
    split
    · rename_i hq
      obtain ⟨rfl, rfl⟩ := hq
      simp only
      omega
    · exact hl
  · have hin : holdIn p s x = true := by
      rcases with_mem.1 hx with ⟨h1, _⟩ | ⟨rfl, _⟩
      · exact List.all_eq_true.1 (formed_iff.1 h.sane.form).2.2.1 x h1
      · refine holdIn_iff.2 ⟨?_, ?_, ?_⟩
        · have := f.ho; show (o : Int) < _; omega
        · have := f.hk; show (k : Int) < _; simp only [Int.toNat_natCast]; omega
        · have := f.hb; show (b : Int) < _; omega
    have := holdIn_iff.1 hin
    exact holdIn_iff.2 ⟨by rw [hold1_orders]; exact this.1, by rw [hold1_lines f]; exact this.2.1, this.2.2⟩
  · have h1 := h.bnd hb' hg'
    rw [hold1_bound h f]
    have : (hold1 s o k b m).on = s.on := rfl
    rw [this]
    split
    · rename_i hq
      obtain ⟨hq1, hq2⟩ := hq
      have hbb : b = b' := by omega
      subst hbb
      rw [hq2] at hav
      unfold avail at hav
      simp only [Int.toNat_natCast] at hav
      omega
    · omega
  · rw [hold1_orders] at ho'
    rw [hold1_lines f] at hk'
    obtain ⟨l1, l2⟩ := h.lineSum ho' hk'
    obtain ⟨g1, g2, g3⟩ := hold1_fixedLine (m := m) f o' k'
    refine lineSummed_iff.2 ?_
    rw [g2, g3, hold1_kept h f, hold1_kind f]
    have hb2 : ((hold1 s o k b m).line o' k').back = (s.line o' k').back - if (o : Int) = o' ∧ (k : Int) = k' then m else 0 := by
      rw [hold1_line f]
      by_cases hq : o' = o ∧ k' = k
      · obtain ⟨rfl, rfl⟩ := hq
        simp
      · rw [if_neg hq, if_neg (by omega)]
        omega
    rw [hb2]
    refine ⟨by omega, ?_⟩
    rintro ⟨hk2, hpos⟩
    by_cases hq : (o : Int) = o' ∧ (k : Int) = k'
    · have : o = o' := by omega
      subst this
      have := f.kind
      omega
    · rw [if_neg hq] at hpos
      exact l2 ⟨hk2, by omega⟩
end
end Wh
namespace Wh

theorem State.ext' {a b : State} (h1 : a.on = b.on) (h2 : a.orders = b.orders) (h3 : a.holds = b.holds) (h4 : a.moves = b.moves) (h5 : a.inn = b.inn) (h6 : a.out = b.out) (h7 : a.fixed = b.fixed) : a = b := by
  cases a; cases b; simp only at h1 h2 h3 h4 h5 h6 h7; subst h1 h2 h3 h4 h5 h6 h7; rfl

/-- t is what comes of holding d more for a line. -/
structure Held (p : Plan) (s t : State) (o k : Nat) (d : Int) : Prop where
  right : Right p t
  on : t.on = s.on
  moves : t.moves = s.moves
  inn : t.inn = s.inn
  out : t.out = s.out
  fixed : t.fixed = s.fixed
  orders : t.orders.length = s.orders.length
  kind : ∀ o', (t.order o').kind = (s.order o').kind
  lines : ∀ o', (t.order o').lines.length = (s.order o').lines.length
  line : ∀ o' k', (t.line o' k').good = (s.line o' k').good ∧ (t.line o' k').want = (s.line o' k').want ∧ (t.line o' k').got = (s.line o' k').got
  back : ∀ o' k', (t.line o' k').back = (s.line o' k').back - if o' = o ∧ k' = k then d else 0
  keptAt : ∀ o' k' b' : Int, ¬ (o' = (o : Int) ∧ k' = (k : Int)) → Wh.keptAt t.holds o' k' b' = Wh.keptAt s.holds o' k' b'
  kept : ∀ o' k' : Int, Wh.kept t.holds o' k' = Wh.kept s.holds o' k' + if o' = (o : Int) ∧ k' = (k : Int) then d else 0
  other : ∀ b g : Int, g ≠ (s.line o k).good → Wh.bound t b g = Wh.bound s b g
  more : ∀ b g : Int, Wh.bound s b g ≤ Wh.bound t b g
  least : ∀ o' k' b' : Int, Wh.keptAt s.holds o' k' b' ≤ Wh.keptAt t.holds o' k' b'

namespace Held
variable {p : Plan} {s t u : State} {o k : Nat} {d d' : Int}
theorem refl (h : Right p s) : Held p s s o k 0 := by
  refine ⟨h, rfl, rfl, rfl, rfl, rfl, rfl, fun _ => rfl, fun _ => rfl, fun _ _ => ⟨rfl, rfl, rfl⟩, fun _ _ => by split <;> omega, fun _ _ _ _ => rfl, fun _ _ => by split <;> omega, fun _ _ _ => rfl, fun _ _ => Int.le_refl _, fun _ _ _ => Int.le_refl _⟩
theorem trans (h : Held p s t o k d) (h' : Held p t u o k d') : Held p s u o k (d + d') := by
  refine ⟨h'.right, h'.on.trans h.on, h'.moves.trans h.moves, h'.inn.trans h.inn, h'.out.trans h.out, h'.fixed.trans h.fixed, h'.orders.trans h.orders, fun o' => (h'.kind o').trans (h.kind o'), fun o' => (h'.lines o').trans (h.lines o'), fun o' k' => ?_, fun o' k' => ?_, fun o' k' b' hn => (h'.keptAt o' k' b' hn).trans (h.keptAt o' k' b' hn), fun o' k' => ?_, fun b g hg => ?_, fun b g => Int.le_trans (h.more b g) (h'.more b g), fun _ _ _ => Int.le_trans (h.least _ _ _) (h'.least _ _ _)⟩
  · obtain ⟨a1, a2, a3⟩ := h.line o' k'
    obtain ⟨b1, b2, b3⟩ := h'.line o' k'
    exact ⟨b1.trans a1, b2.trans a2, b3.trans a3⟩
  · rw [h'.back, h.back]
    split <;> omega
  · rw [h'.kept, h.kept]
    split <;> omega
  · rw [h'.other b g (by rw [(h.line o k).1]; exact hg), h.other b g hg]
theorem one {b : Nat} {m : Int} (h : Right p s) (f : Fits p s o k b m) : Held p s (hold1 s o k b m) o k m := by
  have hm := f.m1
  refine ⟨hold1_right h f, rfl, rfl, rfl, rfl, rfl, hold1_orders, fun o' => hold1_kind f o', fun o' => hold1_lines f o', fun o' k' => hold1_fixedLine f o' k', fun o' k' => ?_, fun o' k' b' hn => ?_, fun o' k' => ?_, fun b' g hg => ?_, fun b' g => ?_, fun o' k' b' => ?_⟩
  · rw [hold1_line f]
    split
    · rename_i hq
      obtain ⟨rfl, rfl⟩ := hq
      rfl
    · omega
  · rw [hold1_keptAt h f, if_neg (by omega), Int.add_zero]
  · rw [hold1_kept h f]
    congr 1
    split <;> split <;> omega
  · rw [hold1_bound h f, if_neg (fun hq => hg hq.2.symm), Int.add_zero]
  · rw [hold1_bound h f]
    split <;> omega
  · rw [hold1_keptAt h f]
    split <;> omega
theorem cast (h : Held p s t o k d) (e : d = d') : Held p s t o k d' := e ▸ h
/-- All was got just if it was before. -/
theorem allGot (h : Held p s t o k d) {o' : Nat} : Wh.allGot (t.order o') = Wh.allGot (s.order o') := by
  rw [Bool.eq_iff_iff, allGot_iff, allGot_iff, h.lines]
  constructor
  · intro hh k' hk'
    have := hh k' hk'
    have e := h.line o' k'
    unfold State.line at e
    rw [e.2.1, e.2.2] at this
    exact this
  · intro hh k' hk'
    have := hh k' hk'
    have e := h.line o' k'
    unfold State.line at e
    rw [e.2.1, e.2.2]
    exact this
theorem check (h : Held p s t o k d) (hs : checkState p s = 0) : checkState p t = 0 := by
  refine check_iff.2 ⟨h.right, fun o' ho' => ?_⟩
  rw [h.kind, h.allGot]
  exact (check_iff.1 hs).2 o' (by rw [← h.orders]; exact ho')
end Held

section
variable {p : Plan} {o k : Nat} {but : Int}
/-- What a line needs so that something may be held for it. -/
structure May (s : State) (o k : Nat) (n : Int) : Prop where
  ho : o < s.orders.length
  hk : k < (s.order o).lines.length
  kind : (s.order o).kind = 1
  n0 : 0 ≤ n
  back : n ≤ (s.line o k).back
theorem May.held {s t : State} {n d : Int} (h : May s o k n) (hh : Held p s t o k d) (hd : d ≤ n) : May t o k (n - d) := by
  refine ⟨by rw [hh.orders]; exact h.ho, by rw [hh.lines]; exact h.hk, by rw [hh.kind]; exact h.kind, by omega, ?_⟩
  rw [hh.back, if_pos ⟨rfl, rfl⟩]
  have := h.back
  omega
theorem May.fits {s : State} {n : Int} (h : May s o k n) {b : Nat} {m : Int} (hb : b < p.bins.length) (h1 : 1 ≤ m) (hn : m ≤ n) (ha : m ≤ avail s b (s.line o k).good) : Fits p s o k b m :=
  ⟨h.ho, h.hk, hb, h.kind, h1, ha, by have := h.back; omega⟩
theorem May.good {s : State} {n : Int} (h : May s o k n) (hs : Right p s) : ((s.line o k).good.toNat : Int) = (s.line o k).good ∧ (s.line o k).good.toNat < p.sizes.length := by
  have := (hs.sane.line h.ho h.hk).1
  omega
theorem May.avail {s : State} {n : Int} (h : May s o k n) (hs : Right p s) {b : Nat} (hb : b < p.bins.length) : 0 ≤ avail s b (s.line o k).good := by
  obtain ⟨e, hg⟩ := h.good hs
  have := (hs.avail_range hb hg).1
  rwa [e] at this

theorem takeGo_skip {b : Nat} {r : List Nat} {s : State} {n : Int} (h : (b : Int) = but ∨ min n (avail s b (s.line o k).good) < 1) : takeGo o k but (b :: r) s n = takeGo o k but r s n := by
  rw [takeGo]; exact if_pos h
theorem takeGo_one {b : Nat} {r : List Nat} {s : State} {n : Int} (h : ¬ (b : Int) = but) (h1 : 1 ≤ min n (avail s b (s.line o k).good)) :
    takeGo o k but (b :: r) s n = takeGo o k but r (hold1 s o k b (min n (avail s b (s.line o k).good))) (n - min n (avail s b (s.line o k).good)) := by
  rw [takeGo]; exact if_neg (by omega)
theorem takeGo_zero : ∀ {bs : List Nat} {s : State} {n : Int}, n < 1 → takeGo o k but bs s n = (s, n)
  | [], _, _, _ => rfl
  | b :: r, s, n, h => by rw [takeGo_skip (.inr (by omega)), takeGo_zero h]
theorem takeGo_held : ∀ {bs : List Nat} {s : State} {n : Int}, Right p s → (∀ b ∈ bs, b < p.bins.length) → May s o k n →
    Held p s (takeGo o k but bs s n).1 o k (n - (takeGo o k but bs s n).2) ∧ 0 ≤ (takeGo o k but bs s n).2 ∧ (takeGo o k but bs s n).2 ≤ n
  | [], s, n, h, _, hm => by
    have := hm.n0
    exact ⟨(Held.refl h).cast (by show (0 : Int) = n - n; omega), this, Int.le_refl _⟩
  | b :: r, s, n, h, hb, hm => by
    by_cases hq : (b : Int) = but ∨ min n (avail s b (s.line o k).good) < 1
    · rw [takeGo_skip hq]
      exact takeGo_held h (fun x hx => hb x (List.mem_cons_of_mem _ hx)) hm
    · rw [takeGo_one (by omega) (by omega)]
      have f := hm.fits (p := p) (b := b) (m := min n (avail s b (s.line o k).good)) (hb b (List.mem_cons_self ..)) (by omega) (by omega) (by omega)
      have h1 := Held.one h f
      obtain ⟨h2, h3, h4⟩ := takeGo_held h1.right (fun x hx => hb x (List.mem_cons_of_mem _ hx)) (hm.held h1 (by omega))
      exact ⟨(h1.trans h2).cast (by omega), h3, by omega⟩
theorem takeGo_other : ∀ {bs : List Nat} {s : State} {n : Int}, Right p s → (∀ b ∈ bs, b < p.bins.length) → May s o k n → ∀ (b : Nat), (b ∉ bs ∨ (b : Int) = but) → ∀ g : Int,
    bound (takeGo o k but bs s n).1 b g = bound s b g
  | [], s, n, h, _, hm => fun _ _ _ => rfl
  | c :: r, s, n, h, hb, hm => fun b hnot g => by
    have hnot' : b ∉ r ∨ (b : Int) = but := hnot.imp (fun h1 h2 => h1 (List.mem_cons_of_mem _ h2)) id
    by_cases hq : (c : Int) = but ∨ min n (avail s c (s.line o k).good) < 1
    · rw [takeGo_skip hq]
      exact takeGo_other h (fun x hx => hb x (List.mem_cons_of_mem _ hx)) hm b hnot' g
    · rw [takeGo_one (by omega) (by omega)]
      have f := hm.fits (p := p) (b := c) (m := min n (avail s c (s.line o k).good)) (hb c (List.mem_cons_self ..)) (by omega) (by omega) (by omega)
      have h1 := Held.one h f
      rw [takeGo_other h1.right (fun x hx => hb x (List.mem_cons_of_mem _ hx)) (hm.held h1 (by omega)) b hnot' g, hold1_bound h f, if_neg, Int.add_zero]
      rintro ⟨e, _⟩
      have : c = b := by omega
      subst this
      rcases hnot with h2 | h2
      · exact h2 (List.mem_cons_self ..)
      · omega
end

theorem way_bins (p : Plan) : ∀ b ∈ way p, b < p.bins.length := fun _ h => mem_way.1 h
theorem takeS_held {p : Plan} {s : State} {o k : Nat} {n but : Int} (h : Right p s) (hm : May s o k n) :
    Held p s (takeS p s o k n but).1 o k (n - (takeS p s o k n but).2) ∧ 0 ≤ (takeS p s o k n but).2 ∧ (takeS p s o k n but).2 ≤ n := takeGo_held h (way_bins p) hm
theorem takeS_but {p : Plan} {s : State} {o k b : Nat} {n : Int} (h : Right p s) (hm : May s o k n) (g : Int) : bound (takeS p s o k n b).1 b g = bound s b g := takeGo_other h (way_bins p) hm b (.inr rfl) g
end Wh
namespace Wh

theorem bin_nat {p : Plan} {b : Int} (h : isBin p b = true) : ∃ n : Nat, b = n ∧ n < p.bins.length := by
  have := isBin_iff.1 h
  exact ⟨b.toNat, by omega, by omega⟩
theorem good_nat {p : Plan} {g : Int} (h : isGood p g = true) : ∃ n : Nat, g = n ∧ n < p.sizes.length := by
  have := isGood_iff.1 h
  exact ⟨g.toNat, by omega, by omega⟩

-- what is begun
-- what is received
theorem cell_setCell {on : List (List Int)} {b g b' g' : Nat} {n : Int} (hb : b < on.length) (hg : g < (rowAt on b).length) : cell (setCell on b g n) b' g' = if b' = b ∧ g' = g then n else cell on b' g' := cell_set hb hg
theorem sumOf_setCell {on : List (List Int)} {b g : Nat} {n : Int} (hb : b < on.length) (hg : g < (rowAt on b).length) (g' : Nat) : sumOf (setCell on b g n) g' = sumOf on g' + if g' = g then n - cell on b g else 0 := by
  unfold sumOf
  rw [length_setCell]
  by_cases h : g' = g
  · subst h
    rw [if_pos rfl]
    refine sumTo_one (i := b) hb (fun k hk hne => ?_) ?_
    · show cell _ k g' = _
      rw [cell_setCell hb hg, if_neg (by omega)]
    · show cell _ b g' = _
      rw [cell_setCell hb hg, if_pos ⟨rfl, rfl⟩]
      omega
  · rw [if_neg h, Int.add_zero]
    refine sumTo_congr fun k hk => ?_
    show cell (setCell on b g n) k g' = cell on k g'
    rw [cell_setCell hb hg, if_neg (by omega)]
theorem sumsOk_set {p : Plan} {l : List Int} {lo : Int} (h : sumsOk p l lo = true) {g : Nat} (hg : g < l.length) {n : Int} (h1 : lo ≤ n) (h2 : n ≤ 1048576) : sumsOk p (l.set g n) lo = true := by
  obtain ⟨h3, h4⟩ := sumsOk_iff.1 h
  refine sumsOk_iff.2 ⟨by simpa using h3, all_of 0 fun k hk => ?_⟩
  have e : (l.set g n).getD k 0 = if k = g then n else intAt l k := intAt_set hg
  rw [e]
  split
  · exact within_iff.2 ⟨h1, h2⟩
  · exact all_at 0 h4 (by simpa using hk)
theorem received {p : Plan} {s : State} {b g : Nat} {n : Int} (h : checkState p s = 0) (hb : b < p.bins.length) (hg : g < p.sizes.length) (hn : 1 ≤ n) (h2 : cell s.on b g + coming s b g + n ≤ 200) (h3 : intAt s.inn g + n ≤ 1048576) :
    checkState p { s with on := setCell s.on b g (cell s.on b g + n), inn := s.inn.set g (intAt s.inn g + n) } = 0 := by
  obtain ⟨hr, hgot⟩ := check_iff.1 h
  have hs := hr.sane
  have hbl : b < s.on.length := by rw [hs.onLen]; exact hb
  have hgl : g < (rowAt s.on b).length := by rw [hs.rowLen hb]; exact hg
  have hgi : g < s.inn.length := by rw [hs.inn.1]; exact hg
  have hcell := hs.cell hb hg
  have hinn := hs.inn.2 hg
  have hcom := coming_range hs b g
  refine check_iff.2 ⟨Right.of (Sane.of ?_ hs.orders4 hs.moves8 (fun o ho => ⟨hs.lines3 ho, hs.kind ho⟩) (fun o k ho hk => lineOk_iff.2 (hs.line ho hk)) hs.holds (fun x hx => List.all_eq_true.1 (formed_iff.1 hs.form).2.2.1 x hx) (fun x hx => List.all_eq_true.1 (formed_iff.1 hs.form).2.2.2.1 x hx)
    (sumsOk_set (formed_iff.1 hs.form).2.2.2.2.1 hgi (by omega) h3) (formed_iff.1 hs.form).2.2.2.2.2.1 (formed_iff.1 hs.form).2.2.2.2.2.2) (fun g' hg' => ?_) (fun b' g' hb' hg' => ?_) hr.line, hgot⟩
  · exact checkShelf_zero.2 ⟨hs.plan, setCell_ok (checkShelf_zero.1 hs.shelf).2 (by omega) hb hg⟩
  · show sumOf (setCell s.on b g (cell s.on b g + n)) g' = intAt (s.inn.set g (intAt s.inn g + n)) g' - intAt s.out g' + intAt s.fixed g'
    rw [sumOf_setCell hbl hgl, intAt_set hgi, hr.sum hg']
    by_cases e : g' = g
    · subst e
      rw [if_pos rfl, if_pos rfl]
      omega
    · rw [if_neg e, if_neg e]
      omega
  · show bound s b' g' ≤ cell (setCell s.on b g (cell s.on b g + n)) b' g'
    have := hr.bnd hb' hg'
    rw [cell_setCell hbl hgl]
    split
    · rename_i e
      obtain ⟨rfl, rfl⟩ := e
      omega
    · exact this
-- what is entered
end Wh
namespace Wh

/-- Things that have a number, of which some may be cut. -/
structure Cutter (α : Type) where
  is : α → Bool
  num : α → Int
  put : α → Int → α
  num_put : ∀ x n, num (put x n) = n
  is_put : ∀ x n, is (put x n) = is x
  put_put : ∀ x n m, put (put x n) m = put x m
  put_num : ∀ x, put x (num x) = x

namespace Cutter
variable {α : Type} (C : Cutter α)
def part (x : α) : Int := if C.is x = true then C.num x else 0
def all (l : List α) : Int := (l.map C.part).sum
def less (v n : Int) : Int := min n (max v 0)
/-- From behind: as many as may be taken away; what is still over. -/
def cut : List α → Int → List α × Int
  | [], v => ([], v)
  | x :: r, v => if C.is x = true then (C.put x (C.num x - less (cut r v).2 (C.num x)) :: (cut r v).1, (cut r v).2 - less (cut r v).2 (C.num x)) else (x :: (cut r v).1, (cut r v).2)
def keep (x : α) : Bool := !decide (C.num x = 0)
def rest (l : List α) (v : Int) : List α := (C.cut l v).1.filter C.keep
/-- The last one has one less; it is gone, if it has none. -/
def dec : List α → List α
  | [] => []
  | x :: r => if r.any C.is = true then x :: dec r else if C.is x = true then (if C.num x = 1 then r else C.put x (C.num x - 1) :: r) else x :: r
def Pos (l : List α) : Prop := ∀ x ∈ l, 1 ≤ C.num x

variable {C}
theorem Pos.cons {x : α} {r : List α} (h : C.Pos (x :: r)) : 1 ≤ C.num x ∧ C.Pos r := ⟨h x (List.mem_cons_self ..), fun y hy => h y (List.mem_cons_of_mem _ hy)⟩
theorem all_cons (x : α) (r : List α) : C.all (x :: r) = C.part x + C.all r := by unfold all; rw [List.map_cons, List.sum_cons]
theorem all_nonneg {l : List α} (h : ∀ x ∈ l, 0 ≤ C.num x) : 0 ≤ C.all l := by
  induction l with
  | nil => exact Int.le_refl _
  | cons x r ih =>
    have h1 := h x (List.mem_cons_self ..)
    have h2 := ih fun y hy => h y (List.mem_cons_of_mem _ hy)
    rw [all_cons]
    unfold part
    split <;> omega
theorem Pos.nonneg {l : List α} (h : C.Pos l) : 0 ≤ C.all l := all_nonneg fun x hx => by have := h x hx; omega
theorem any_all {l : List α} (h : C.Pos l) : l.any C.is = decide (0 < C.all l) := by
  induction l with
  | nil => rfl
  | cons x r ih =>
    obtain ⟨h1, h2⟩ := h.cons
    have h3 := h2.nonneg
    rw [List.any_cons, ih h2, all_cons]
    unfold part
    cases hx : C.is x
    · simp
    · simp
      omega
theorem cut_is {x : α} (hx : C.is x = true) (r : List α) (v : Int) : C.cut (x :: r) v = (C.put x (C.num x - less (C.cut r v).2 (C.num x)) :: (C.cut r v).1, (C.cut r v).2 - less (C.cut r v).2 (C.num x)) := by rw [cut, if_pos hx]
theorem cut_not {x : α} (hx : C.is x = false) (r : List α) (v : Int) : C.cut (x :: r) v = (x :: (C.cut r v).1, (C.cut r v).2) := by rw [cut, if_neg (by rw [hx]; simp)]
theorem cut_over {l : List α} (h : ∀ x ∈ l, 0 ≤ C.num x) (v : Int) : (C.cut l v).2 = v - min (max v 0) (C.all l) := by
  induction l with
  | nil => show v = v - min (max v 0) 0; omega
  | cons x r ih =>
    have h1 := h x (List.mem_cons_self ..)
    have hr := fun y hy => h y (List.mem_cons_of_mem _ hy)
    have h2 := ih hr
    have h3 := all_nonneg hr
    rw [all_cons]
    unfold part
    cases hx : C.is x
    · rw [cut_not hx]
      simp only [Bool.false_eq_true, if_false]
      omega
    · rw [cut_is hx]
      simp only [if_true]
      unfold less
      omega
theorem cut_length (l : List α) (v : Int) : (C.cut l v).1.length = l.length := by
  induction l with
  | nil => rfl
  | cons x r ih =>
    cases hx : C.is x
    · rw [cut_not hx]; simp [ih]
    · rw [cut_is hx]; simp [ih]
theorem cut_all {l : List α} (h : ∀ x ∈ l, 0 ≤ C.num x) (v : Int) : C.all (C.cut l v).1 = C.all l - min (max v 0) (C.all l) := by
  induction l with
  | nil => show (0 : Int) = 0 - min (max v 0) 0; omega
  | cons x r ih =>
    have h1 := h x (List.mem_cons_self ..)
    have hr := fun y hy => h y (List.mem_cons_of_mem _ hy)
    have h2 := ih hr
    have h3 := all_nonneg hr
    have h4 := cut_over hr v
    rw [all_cons]
    cases hx : C.is x
    · rw [cut_not hx]
      simp only
      rw [all_cons]
      unfold part
      rw [hx]
      simp only [Bool.false_eq_true, if_false]
      omega
    · rw [cut_is hx]
      simp only
      rw [all_cons]
      unfold part
      rw [C.is_put, hx, C.num_put]
      simp only [if_true]
      unfold less
      omega
/-- Each one is as it was, or has less. -/
theorem cut_mem {l : List α} (h : ∀ x ∈ l, 0 ≤ C.num x) (v : Int) : ∀ y ∈ (C.cut l v).1, ∃ x ∈ l, y = C.put x (C.num y) ∧ 0 ≤ C.num y ∧ C.num y ≤ C.num x ∧ (C.is x = false → y = x) := by
  induction l with
  | nil => intro y hy; simp [cut] at hy
  | cons x r ih =>
    have h1 := h x (List.mem_cons_self ..)
    have hr := fun y hy => h y (List.mem_cons_of_mem _ hy)
    intro y hy
    cases hx : C.is x
    · rw [cut_not hx] at hy
      rcases List.mem_cons.1 hy with rfl | hy
      · exact ⟨y, List.mem_cons_self .., (C.put_num y).symm, h1, Int.le_refl _, fun _ => rfl⟩
      · obtain ⟨z, hz, h2⟩ := ih hr y hy
        exact ⟨z, List.mem_cons_of_mem _ hz, h2⟩
    · rw [cut_is hx] at hy
      rcases List.mem_cons.1 hy with rfl | hy
      · refine ⟨x, List.mem_cons_self .., ?_, ?_, ?_, fun h => by rw [hx] at h; cases h⟩
        · rw [C.num_put]
        · rw [C.num_put]; unfold less; omega
        · rw [C.num_put]; unfold less; omega
      · obtain ⟨z, hz, h2⟩ := ih hr y hy
        exact ⟨z, List.mem_cons_of_mem _ hz, h2⟩
theorem cut_none {l : List α} (h : ∀ x ∈ l, 0 ≤ C.num x) {v : Int} (hv : v ≤ 0) : (C.cut l v).1 = l := by
  induction l with
  | nil => rfl
  | cons x r ih =>
    have h1 := h x (List.mem_cons_self ..)
    have hr := fun y hy => h y (List.mem_cons_of_mem _ hy)
    have h2 := cut_over hr v
    have h3 := all_nonneg hr
    cases hx : C.is x
    · rw [cut_not hx, ih hr]
    · rw [cut_is hx, ih hr]
      simp only
      have : less (C.cut r v).2 (C.num x) = 0 := by unfold less; omega
      rw [this, Int.sub_zero, C.put_num]
theorem cut_max {l : List α} (h : ∀ x ∈ l, 0 ≤ C.num x) (v : Int) : (C.cut l v).1 = (C.cut l (max v 0)).1 := by
  by_cases hv : v ≤ 0
  · rw [cut_none h hv, cut_none h (by omega)]
  · rw [show max v 0 = v by omega]
/-- Who has nothing left is nothing more cut. -/
theorem cut_full {l : List α} (h : ∀ x ∈ l, 0 ≤ C.num x) {v : Int} (hv : C.all l ≤ v) : (C.cut l v).1 = l.map fun x => if C.is x = true then C.put x 0 else x := by
  induction l with
  | nil => rfl
  | cons x r ih =>
    have h1 := h x (List.mem_cons_self ..)
    have hr := fun y hy => h y (List.mem_cons_of_mem _ hy)
    have h2 := cut_over hr v
    have h3 := all_nonneg hr
    rw [all_cons] at hv
    unfold part at hv
    cases hx : C.is x
    · rw [hx] at hv
      simp only [Bool.false_eq_true, if_false] at hv
      rw [cut_not hx, ih hr (by omega), List.map_cons, hx]
      rfl
    · rw [hx] at hv
      simp only [if_true] at hv
      rw [cut_is hx, ih hr (by omega), List.map_cons, hx]
      simp only [if_true]
      have : less (C.cut r v).2 (C.num x) = C.num x := by unfold less; omega
      rw [this, Int.sub_self]
theorem rest_none {l : List α} (h : C.Pos l) {v : Int} (hv : v ≤ 0) : C.rest l v = l := by
  unfold rest
  rw [cut_none (fun x hx => by have := h x hx; omega) hv]
  refine List.filter_eq_self.2 fun x hx => ?_
  have := h x hx
  unfold keep
  simp
  omega
theorem rest_max {l : List α} (h : C.Pos l) (v : Int) : C.rest l v = C.rest l (max v 0) := by
  unfold rest
  rw [cut_max (fun x hx => by have := h x hx; omega)]
theorem rest_pos {l : List α} (h : C.Pos l) (v : Int) : C.Pos (C.rest l v) := fun y hy => by
  obtain ⟨h1, h2⟩ := List.mem_filter.1 hy
  obtain ⟨x, _, _, h3, _⟩ := cut_mem (fun x hx => by have := h x hx; omega) v y h1
  unfold keep at h2
  simp at h2
  omega
theorem all_filter (l : List α) : C.all (l.filter C.keep) = C.all l := by
  induction l with
  | nil => rfl
  | cons x r ih =>
    rw [List.filter_cons, all_cons]
    split
    · rw [all_cons, ih]
    · rename_i hk
      unfold keep at hk
      simp at hk
      rw [ih]
      unfold part
      rw [hk]
      split <;> omega
theorem rest_all {l : List α} (h : C.Pos l) (v : Int) : C.all (C.rest l v) = C.all l - min (max v 0) (C.all l) := by
  unfold rest
  rw [all_filter, cut_all (fun x hx => by have := h x hx; omega)]
theorem rest_mem {l : List α} (h : C.Pos l) (v : Int) : ∀ y ∈ C.rest l v, ∃ x ∈ l, y = C.put x (C.num y) ∧ 1 ≤ C.num y ∧ C.num y ≤ C.num x ∧ (C.is x = false → y = x) := fun y hy => by
  have h0 := rest_pos h v y hy
  obtain ⟨x, h1, h2, _, h4⟩ := cut_mem (fun x hx => by have := h x hx; omega) v y (List.mem_filter.1 hy).1
  exact ⟨x, h1, h2, h0, h4⟩
/-- One piece more. -/
theorem rest_succ {l : List α} (h : C.Pos l) {t : Int} (ht : 0 ≤ t) (hl : t + 1 ≤ C.all l) : C.rest l (t + 1) = C.dec (C.rest l t) := by
  induction l with
  | nil => exact absurd hl (by show ¬ t + 1 ≤ 0; omega)
  | cons x r ih =>
    obtain ⟨h1, hr⟩ := h.cons
    have hr0 : ∀ y ∈ r, 0 ≤ C.num y := fun y hy => by have := hr y hy; omega
    have a0 := cut_over hr0 t
    have a1 := cut_over hr0 (t + 1)
    have a2 := hr.nonneg
    have hany := any_all (rest_pos hr t)
    rw [rest_all hr] at hany
    rw [all_cons] at hl
    unfold part at hl
    unfold rest at ih hany ⊢
    by_cases hA : t + 1 ≤ C.all r
    · have hany' : ((C.cut r t).1.filter C.keep).any C.is = true := by rw [hany]; simp; omega
      have ih' := ih hr hA
      have hkx : C.keep x = true := by unfold keep; simp; omega
      cases hx : C.is x
      · rw [cut_not hx, cut_not hx]
        simp only
        rw [List.filter_cons_of_pos hkx, List.filter_cons_of_pos hkx, dec, if_pos hany', ih']
      · rw [cut_is hx, cut_is hx]
        simp only
        have e0 : less (C.cut r t).2 (C.num x) = 0 := by unfold less; omega
        have e1 : less (C.cut r (t + 1)).2 (C.num x) = 0 := by unfold less; omega
        rw [e0, e1, Int.sub_zero, C.put_num, List.filter_cons_of_pos hkx, List.filter_cons_of_pos hkx, dec, if_pos hany', ih']
    · cases hx : C.is x
      · rw [hx] at hl
        simp only [Bool.false_eq_true, if_false] at hl
        omega
      · rw [hx] at hl
        simp only [if_true] at hl
        have hany' : ((C.cut r t).1.filter C.keep).any C.is = false := by rw [hany]; simp; omega
        have e0 : less (C.cut r t).2 (C.num x) = t - C.all r := by unfold less; omega
        have e1 : less (C.cut r (t + 1)).2 (C.num x) = t + 1 - C.all r := by unfold less; omega
        have e2 : (C.cut r (t + 1)).1 = (C.cut r t).1 := by rw [cut_full hr0 (by omega), cut_full hr0 (by omega)]
        rw [cut_is hx, cut_is hx]
        simp only
        rw [e0, e1, e2]
        have hk0 : C.keep (C.put x (C.num x - (t - C.all r))) = true := by unfold keep; rw [C.num_put]; simp; omega
        rw [List.filter_cons_of_pos hk0, dec, if_neg (by rw [hany']; simp), C.is_put, if_pos hx, C.num_put, C.put_put]
        by_cases hz : C.num x - (t - C.all r) = 1
        · rw [if_pos hz, List.filter_cons_of_neg (by unfold keep; rw [C.num_put]; simp; omega)]
        · rw [if_neg hz, List.filter_cons_of_pos (by unfold keep; rw [C.num_put]; simp; omega)]
          congr 2
          omega
/-- Where the last one stands. -/
theorem dec_at : ∀ {l : List α} {k : Nat} (hk : k < l.length), C.is l[k] = true → (∀ j (hj : j < l.length), k < j → C.is l[j] = false) → C.dec l = if C.num l[k] = 1 then l.eraseIdx k else l.set k (C.put l[k] (C.num l[k] - 1))
  | x :: r, 0, _, h1, h2 => by
    have hany : r.any C.is = false := by
      rw [List.any_eq_false]
      intro y hy
      obtain ⟨j, hj, rfl⟩ := List.getElem_of_mem hy
      have := h2 (j + 1) (by simpa using hj) (by omega)
      simp at this
      simp [this]
    simp only [List.getElem_cons_zero] at h1 ⊢
    rw [dec, if_neg (by rw [hany]; simp), if_pos h1]
    rfl
  | x :: r, k + 1, hk, h1, h2 => by
    have hk' : k < r.length := by simpa using hk
    simp only [List.getElem_cons_succ] at h1 ⊢
    have hany : r.any C.is = true := List.any_eq_true.2 ⟨r[k], List.getElem_mem hk', h1⟩
    rw [dec, if_pos hany, dec_at hk' h1 (fun j hj hkj => by have := h2 (j + 1) (by simpa using hj) (by omega); simpa using this)]
    split
    · rfl
    · rfl
end Cutter
end Wh
