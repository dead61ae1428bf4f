/- Texts of the claim, joined: PlainH, PlainJ, HoldsA, HoldsB, HoldsC, WalkL, WalkN, Same. -/
import Derived.Deep.RegionHeld3
import Derived.Laws.StructEq
import Derived.Test.YtbmklcloknpniaaQ06
import Derived.Test.YtbmklcloknpniaaQ02
import Derived.Test.YtbmklcloknpniaaQ03
import Derived.Test.YtbmklcloknpniaaQ04
import Derived.Test.YtbmklcloknpniaaQ07
namespace Wh

theorem keptAt_cons (x : Hold) (l : List Hold) (o ln b : Int) : keptAt (x :: l) o ln b = if x.order = o ∧ x.line = ln ∧ x.bin = b then x.n else keptAt l o ln b := by
  unfold keptAt
  rw [List.find?_cons]
  by_cases hk : x.order = o ∧ x.line = ln ∧ x.bin = b
  · rw [if_pos hk, sameKey_iff.2 hk]
  · rw [if_neg hk, show sameKey o ln b x = false by rw [← Bool.not_eq_true, sameKey_iff]; exact hk]
theorem filter_none {α : Type} {p : α → Bool} {l : List α} (h : ∀ x ∈ l, p x = false) : l.filter p = [] := List.filter_eq_nil_iff.2 fun x hx => by rw [h x hx]; simp
/-- Right holds in three parts: before a place, there, behind it. -/
theorem sum_parts {h : Hold} (hk : keyOk h.order h.line h.bin) (F : Hold → Int) (f : Int → Int → Int → Int) (hF : ∀ x, F x = f x.order x.line x.bin * x.n) : ∀ {l : List Hold}, fine l → rises l →
    (l.map F).sum = ((l.filter fun x => decide (place x < place h)).map F).sum + f h.order h.line h.bin * keptAt l h.order h.line h.bin + ((l.filter fun x => decide (place h < place x)).map F).sum := by
  intro l
  induction l with
  | nil => intro _ _; simp [keptAt]
  | cons x l ih =>
    intro hf hr
    have hf' : fine l := fun h hm => hf h (List.mem_cons_of_mem _ hm)
    have hr' := List.pairwise_cons.1 hr
    have ih' := ih hf' hr'.2
    have hx := (fine_iff.1 (hf x (List.mem_cons_self ..))).1
    rw [List.map_cons, List.sum_cons, keptAt_cons]
    rcases Int.lt_trichotomy (place x) (place h) with h1 | h1 | h1
    · have hne : ¬ (x.order = h.order ∧ x.line = h.line ∧ x.bin = h.bin) := fun he => by
        rw [place_congr he] at h1; omega
      rw [if_neg hne, List.filter_cons_of_pos (by simpa using h1), List.filter_cons_of_neg (by simp; omega), List.map_cons, List.sum_cons, ih']
      omega
    · obtain ⟨e1, e2, e3⟩ := place_inj hx hk h1
      have hlt : (l.filter fun x => decide (place x < place h)) = [] := filter_none fun y hy => by
        have := hr'.1 y hy
        simp; omega
      have h0 : keptAt l h.order h.line h.bin = 0 := keptAt_none fun y hy he => by
        have h2 := hr'.1 y hy
        rw [place_congr he] at h2
        omega
      rw [if_pos ⟨e1, e2, e3⟩, List.filter_cons_of_neg (by simp; omega), List.filter_cons_of_neg (by simp; omega), ih', hlt, h0, hF x, e1, e2, e3]
      simp
    · have hne : ¬ (x.order = h.order ∧ x.line = h.line ∧ x.bin = h.bin) := fun he => by
        rw [place_congr he] at h1; omega
      have hlt : (l.filter fun x => decide (place x < place h)) = [] := filter_none fun y hy => by
        have := hr'.1 y hy
        simp; omega
      rw [if_neg hne, List.filter_cons_of_neg (by simp; omega), List.filter_cons_of_pos (by simpa using h1), List.map_cons, List.sum_cons, ih', hlt]
      simp
      omega
theorem sum_with {l : List Hold} {h : Hold} (hl : holdsOk l = true) (hk : keyOk h.order h.line h.bin) (F : Hold → Int) (f : Int → Int → Int → Int) (hF : ∀ x, F x = f x.order x.line x.bin * x.n) :
    ((withHold l h).map F).sum = (l.map F).sum + f h.order h.line h.bin * (h.n - keptAt l h.order h.line h.bin) := by
  obtain ⟨hf, hr⟩ := holdsOk_iff.1 hl
  rw [sum_parts hk F f hF hf hr]
  unfold withHold
  rw [List.map_append, List.map_append, List.sum_append, List.sum_append, Int.mul_sub]
  by_cases h0 : h.n = 0
  · rw [if_pos h0, h0]
    simp
    omega
  · rw [if_neg h0]
    simp only [List.map_cons, List.map_nil, List.sum_cons, List.sum_nil, hF h]
    omega

-- orders and lines after a store
theorem orderAt_set {l : List Order} {o : Nat} (ho : o < l.length) (x : Order) (o' : Nat) : orderAt (l.set o x) o' = if o' = o then x else orderAt l o' := by
  unfold orderAt
  by_cases h : o' = o
  · subst h
    simp [ho]
  · rw [if_neg h]
    simp [Ne.symm h]
theorem lineAt_set {l : List Line} {k : Nat} (hk : k < l.length) (x : Line) (k' : Nat) : lineAt (l.set k x) k' = if k' = k then x else lineAt l k' := by
  unfold lineAt
  by_cases h : k' = k
  · subst h
    simp [hk]
  · rw [if_neg h]
    simp [Ne.symm h]
theorem order_setLine {s : State} {o : Nat} (ho : o < s.orders.length) (k : Nat) (y : Line) (o' : Nat) : (s.setLine o k y).order o' = if o' = o then { s.order o with lines := (s.order o).lines.set k y } else s.order o' := orderAt_set ho _ _
theorem line_setLine {s : State} {o k : Nat} (ho : o < s.orders.length) (hk : k < (s.order o).lines.length) (y : Line) (o' k' : Nat) : (s.setLine o k y).line o' k' = if o' = o ∧ k' = k then y else s.line o' k' := by
  unfold State.line
  rw [order_setLine ho]
  by_cases h : o' = o
  · subst h
    rw [if_pos rfl]
    simp only [true_and]
    exact lineAt_set hk _ _
  · rw [if_neg h, if_neg (fun h' => h h'.1)]
theorem orders_setLine (s : State) (o k : Nat) (y : Line) : (s.setLine o k y).orders.length = s.orders.length := by unfold State.setLine; simp
theorem kind_setLine {s : State} {o : Nat} (ho : o < s.orders.length) (k : Nat) (y : Line) (o' : Nat) : ((s.setLine o k y).order o').kind = (s.order o').kind := by
  rw [order_setLine ho]
  split
  · rename_i h; rw [h]
  · rfl
theorem lines_setLine {s : State} {o : Nat} (ho : o < s.orders.length) (k : Nat) (y : Line) (o' : Nat) : ((s.setLine o k y).order o').lines.length = (s.order o').lines.length := by
  rw [order_setLine ho]
  split
  · rename_i h; rw [h]; simp
  · rfl

/-- What is held hangs on the holds and the lines' goods alone. -/
theorem heldIn_congr {s t : State} (hh : t.holds = s.holds) (hg : ∀ o k, (t.line o k).good = (s.line o k).good) (b g : Int) : heldIn t b g = heldIn s b g := by
  unfold heldIn
  rw [hh]
  congr 1
  apply List.map_congr_left
  intro h _
  unfold heldN
  rw [hg]
theorem heldIn_with {s : State} {h : Hold} (hl : holdsOk s.holds = true) (hk : keyOk h.order h.line h.bin) (b g : Int) :
    heldIn { s with holds := withHold s.holds h } b g = heldIn s b g + if h.bin = b ∧ (s.line h.order.toNat h.line.toNat).good = g then h.n - keptAt s.holds h.order h.line h.bin else 0 := by
  have := sum_with hl hk (heldN s b g) (fun o ln b' => if b' = b ∧ (s.line o.toNat ln.toNat).good = g then 1 else 0) (fun x => by
    unfold heldN
    split <;> simp)
  have e : heldIn { s with holds := withHold s.holds h } b g = ((withHold s.holds h).map (heldN s b g)).sum := rfl
  rw [e, this]
  congr 1
  split <;> simp

/-- A state that is as it must be, but maybe that an order is to be closed. -/
structure Right (p : Plan) (s : State) : Prop where
  sane : Sane p s
  good : ∀ g, g < p.sizes.length → goodSummed p s g = true
  line : ∀ o k, o < s.orders.length → k < (s.order o).lines.length → lineSummed s o k = true

theorem check_iff {p : Plan} {s : State} : checkState p s = 0 ↔ Right p s ∧ ∀ o, o < s.orders.length → ¬ ((s.order o).kind = 1 ∧ allGot (s.order o) = true) := by
  rw [checkState_zero, summed_iff]
  constructor
  · rintro ⟨h1, h2, h3⟩
    exact ⟨⟨h1, h2, fun o k ho hk => (orderSummed_iff.1 (h3 o ho)).2 k hk⟩, fun o ho => (orderSummed_iff.1 (h3 o ho)).1⟩
  · rintro ⟨⟨h1, h2, h3⟩, h4⟩
    exact ⟨h1, h2, fun o ho => orderSummed_iff.2 ⟨h4 o ho, fun k hk => h3 o k ho hk⟩⟩
theorem right_of_check {p : Plan} {s : State} (h : checkState p s = 0) : Right p s := (check_iff.1 h).1

theorem mem_line {s : State} {o : Nat} {x : Line} (hx : x ∈ (s.order o).lines) : ∃ k, k < (s.order o).lines.length ∧ s.line o k = x := by
  obtain ⟨k, hk, rfl⟩ := List.getElem_of_mem hx
  exact ⟨k, hk, by unfold State.line; rw [lineAt_eq hk]⟩
/-- Built from what its parts are. -/
theorem Sane.of {p : Plan} {s : State} (h1 : checkShelf p s.on = 0) (h2 : s.orders.length ≤ 4) (h3 : s.moves.length ≤ 8) (h4 : ∀ o, o < s.orders.length → (1 ≤ (s.order o).lines.length ∧ (s.order o).lines.length ≤ 3) ∧ 0 ≤ (s.order o).kind ∧ (s.order o).kind ≤ 2)
    (h5 : ∀ o k, o < s.orders.length → k < (s.order o).lines.length → lineOk p (s.line o k) = true) (h6 : holdsOk s.holds = true) (h7 : ∀ x ∈ s.holds, holdIn p s x = true) (h8 : ∀ x ∈ s.moves, moveOk p x = true)
    (h9 : sumsOk p s.inn 0 = true) (h10 : sumsOk p s.out 0 = true) (h11 : sumsOk p s.fixed (-1048576) = true) : Sane p s := by
  refine ⟨h1, manyOk_iff.2 ⟨h2, h3, all_of dOrder fun o ho => within_iff.2 ?_⟩, formed_iff.2 ⟨all_of dOrder fun o ho => orderOk_iff.2 ⟨(h4 o ho).2, List.all_eq_true.2 fun x hx => ?_⟩, h6, List.all_eq_true.2 h7, List.all_eq_true.2 h8, h9, h10, h11⟩⟩
  · have := (h4 o ho).1
    unfold State.order orderAt at this
    omega
  · obtain ⟨k, hk, rfl⟩ := mem_line (s := s) (o := o) hx
    exact h5 o k ho hk
theorem Right.of {p : Plan} {s : State} (h : Sane p s) (h1 : ∀ g, g < p.sizes.length → sumOf s.on g = intAt s.inn g - intAt s.out g + intAt s.fixed g) (h2 : ∀ b g : Nat, b < p.bins.length → g < p.sizes.length → bound s b g ≤ cell s.on b g)
    (h3 : ∀ o k, o < s.orders.length → k < (s.order o).lines.length → lineSummed s o k = true) : Right p s :=
  ⟨h, fun g hg => goodSummed_iff.2 ⟨h1 g hg, fun b hb => h2 b g hb hg⟩, h3⟩

namespace Right
variable {p : Plan} {s : State} (h : Right p s)
include h
theorem sum {g : Nat} (hg : g < p.sizes.length) : sumOf s.on g = intAt s.inn g - intAt s.out g + intAt s.fixed g := (goodSummed_iff.1 (h.good g hg)).1
theorem bnd {b g : Nat} (hb : b < p.bins.length) (hg : g < p.sizes.length) : bound s b g ≤ cell s.on b g := (goodSummed_iff.1 (h.good g hg)).2 b hb
theorem lineSum {o k : Nat} (ho : o < s.orders.length) (hk : k < (s.order o).lines.length) : (s.line o k).got + (s.line o k).back + kept s.holds o k = (if (s.order o).kind = 0 then 0 else (s.line o k).want) ∧ ¬ ((s.order o).kind = 2 ∧ 0 < kept s.holds o k) := lineSummed_iff.1 (h.line o k ho hk)
theorem avail_range {b g : Nat} (hb : b < p.bins.length) (hg : g < p.sizes.length) : 0 ≤ avail s b g ∧ avail s b g ≤ cell s.on b g := by
  have h1 := h.bnd hb hg
  have h2 := bound_range h.sane b g
  unfold avail
  simp only [Int.toNat_natCast]
  omega
end Right

-- one more hold
section
variable {p : Plan} {s : State} {o k b : Nat} {m : Int}
theorem kept_pos {l : List Hold} (hl : holdsOk l = true) (o ln b : Int) : 0 ≤ keptAt l o ln b := (keptAt_range (holdsOk_iff.1 hl).1 (holdsOk_iff.1 hl).2 o ln b).1
theorem keptAt_held (hs : Sane p s) (o k b : Int) : keptAt s.holds o k b ≤ heldIn s b (s.line o.toNat k.toNat).good := by
  by_cases h0 : keptAt s.holds o k b = 0
  · rw [h0]
    have := heldTo_range hs b (s.line o.toNat k.toNat).good s.holds.length
    rw [heldTo_all] at this
    omega
  · obtain ⟨h1, h2⟩ := holdsOk_iff.1 hs.holds
    obtain ⟨hk, hm⟩ := keptAt_key h1 h2 h0
    have h3 : ∀ l : List Hold, (∀ x ∈ l, 1 ≤ x.n) → ∀ x ∈ l, heldN s b (s.line o.toNat k.toNat).good x ≤ (l.map (heldN s b (s.line o.toNat k.toNat).good)).sum ∧ 0 ≤ (l.map (heldN s b (s.line o.toNat k.toNat).good)).sum := by
      intro l
      induction l with
      | nil => simp
      | cons y l ih =>
        intro hn x hx
        have hy := hn y (by simp)
        have hyn : 0 ≤ heldN s b (s.line o.toNat k.toNat).good y := by unfold heldN; split <;> omega
        have hl0 : 0 ≤ (l.map (heldN s b (s.line o.toNat k.toNat).good)).sum := by
          cases l with
          | nil => simp
          | cons z l => exact (ih (fun x hx => hn x (by simp at hx ⊢; exact .inr hx)) z (by simp)).2
        rw [List.map_cons, List.sum_cons]
        rcases List.mem_cons.1 hx with rfl | hx
        · exact ⟨by omega, by omega⟩
        · have := ih (fun x hx => hn x (List.mem_cons_of_mem _ hx)) x hx
          omega
    have h4 := (h3 s.holds (fun x hx => (fine_iff.1 (h1 x hx)).2.1) _ hm).1
    have h5 : heldN s b (s.line o.toNat k.toNat).good ⟨o, k, b, keptAt s.holds o k b⟩ = keptAt s.holds o k b := by
      unfold heldN
      exact if_pos ⟨rfl, rfl⟩
    rw [h5] at h4
    exact h4
theorem goingOf_nonneg (hs : Sane p s) (b g : Int) : 0 ≤ goingOf s.moves b g := by
  have := goingTo_range hs b g s.moves.length
  rw [goingTo_all] at this
  exact this.1
theorem key_of (hs : Sane p s) (ho : o < s.orders.length) (hk : k < (s.order o).lines.length) (hb : b < p.bins.length) : keyOk o k b := by
  have h4 := hs.orders4
  have h3 := hs.lines3 ho
  have hc := hs.counts
  unfold keyOk
  omega
/-- What one more hold needs. -/
structure Fits (p : Plan) (s : State) (o k b : Nat) (m : Int) : Prop where
  ho : o < s.orders.length
  hk : k < (s.order o).lines.length
  hb : b < p.bins.length
  kind : (s.order o).kind = 1
  m1 : 1 ≤ m
  av : m ≤ avail s b (s.line o k).good
  back : m ≤ (s.line o k).back
variable (h : Right p s) (f : Fits p s o k b m)
include h f
theorem fits_good : ((s.line o k).good.toNat : Int) = (s.line o k).good ∧ (s.line o k).good.toNat < p.sizes.length := by
  have := (h.sane.line f.ho f.hk).1
  omega
theorem fits_kept : 0 ≤ keptAt s.holds o k b ∧ keptAt s.holds o k b + m ≤ 200 := by
  obtain ⟨e, hg⟩ := fits_good h f
  have h1 := keptAt_held h.sane o k b
  have h2 := goingOf_nonneg h.sane b (s.line o k).good
  have h3 := f.av
  have h4 := h.sane.cell f.hb hg
  unfold avail bound at h3
  simp only [Int.toNat_natCast] at h1 h3
  exact ⟨kept_pos h.sane.holds _ _ _, by omega⟩
theorem hold1_holdsOk : holdsOk (hold1 s o k b m).holds = true := by
  have := fits_kept h f
  have hm := f.m1
  exact with_ok h.sane.holds (key_of h.sane f.ho f.hk f.hb) ⟨by show 0 ≤ keptAt s.holds o k b + m; omega, this.2⟩
theorem hold1_keptAt (o' k' b' : Int) : keptAt (hold1 s o k b m).holds o' k' b' = keptAt s.holds o' k' b' + if (o : Int) = o' ∧ (k : Int) = k' ∧ (b : Int) = b' then m else 0 := by
  have := fits_kept h f
  have hm := f.m1
  have e := keptAt_with (h := ⟨o, k, b, keptAt s.holds o k b + m⟩) h.sane.holds (key_of h.sane f.ho f.hk f.hb) ⟨by show 0 ≤ keptAt s.holds o k b + m; omega, this.2⟩ o' k' b'
  refine e.trans ?_
  simp only
  split
  · rename_i hq
    obtain ⟨rfl, rfl, rfl⟩ := hq
    rfl
  · omega
theorem hold1_kept (o' k' : Int) : kept (hold1 s o k b m).holds o' k' = kept s.holds o' k' + if (o : Int) = o' ∧ (k : Int) = k' then m else 0 := by
  have := fits_kept h f
  have hm := f.m1
  have e := kept_with (h := ⟨o, k, b, keptAt s.holds o k b + m⟩) h.sane.holds (key_of h.sane f.ho f.hk f.hb) ⟨by show 0 ≤ keptAt s.holds o k b + m; omega, this.2⟩ o' k'
  refine e.trans ?_
  simp only
  congr 1
  split <;> omega
omit h in
theorem hold1_line (o' k' : Nat) : (hold1 s o k b m).line o' k' = if o' = o ∧ k' = k then { s.line o k with back := (s.line o k).back - m } else s.line o' k' :=
  line_setLine (s := { s with holds := withHold s.holds ⟨o, k, b, keptAt s.holds o k b + m⟩ }) f.ho f.hk _ o' k'
omit h in
theorem hold1_kind (o' : Nat) : ((hold1 s o k b m).order o').kind = (s.order o').kind := kind_setLine (s := { s with holds := withHold s.holds ⟨o, k, b, keptAt s.holds o k b + m⟩ }) f.ho _ _ _
omit h in
theorem hold1_lines (o' : Nat) : ((hold1 s o k b m).order o').lines.length = (s.order o').lines.length := lines_setLine (s := { s with holds := withHold s.holds ⟨o, k, b, keptAt s.holds o k b + m⟩ }) f.ho _ _ _
omit h f in
theorem hold1_orders : (hold1 s o k b m).orders.length = s.orders.length := orders_setLine _ _ _ _
omit h in
theorem hold1_fixedLine (o' k' : Nat) : ((hold1 s o k b m).line o' k').good = (s.line o' k').good ∧ ((hold1 s o k b m).line o' k').want = (s.line o' k').want ∧ ((hold1 s o k b m).line o' k').got = (s.line o' k').got := by
  rw [hold1_line f]
  split
  · rename_i hq
    obtain ⟨rfl, rfl⟩ := hq
    exact ⟨rfl, rfl, rfl⟩
  · exact ⟨rfl, rfl, rfl⟩
theorem hold1_bound (b' g : Int) : bound (hold1 s o k b m) b' g = bound s b' g + if (b : Int) = b' ∧ (s.line o k).good = g then m else 0 := by
  have e1 : heldIn (hold1 s o k b m) b' g = heldIn { s with holds := withHold s.holds ⟨o, k, b, keptAt s.holds o k b + m⟩ } b' g :=
    heldIn_congr (s := { s with holds := withHold s.holds ⟨o, k, b, keptAt s.holds o k b + m⟩ }) (t := hold1 s o k b m) rfl (fun o' k' => (hold1_fixedLine f o' k').1) b' g
  have e2 := heldIn_with (s := s) (h := ⟨o, k, b, keptAt s.holds o k b + m⟩) h.sane.holds (key_of h.sane f.ho f.hk f.hb) b' g
  unfold bound
  rw [e1, e2]
  simp only [Int.toNat_natCast]
  have : goingOf (hold1 s o k b m).moves b' g = goingOf s.moves b' g := rfl
  rw [this]
  split <;> omega
theorem hold1_right : Right p (hold1 s o k b m) := by
  obtain ⟨e, hg⟩ := fits_good h f
  have hm := f.m1
  have hbk := f.back
  have hav := f.av
  refine Right.of (Sane.of h.sane.shelf (by rw [hold1_orders]; exact h.sane.orders4) h.sane.moves8 (fun o' ho' => ?_) (fun o' k' ho' hk' => ?_) (hold1_holdsOk h f) (fun x hx => ?_) (fun x hx => List.all_eq_true.1 (formed_iff.1 h.sane.form).2.2.2.1 x hx)
    (formed_iff.1 h.sane.form).2.2.2.2.1 (formed_iff.1 h.sane.form).2.2.2.2.2.1 (formed_iff.1 h.sane.form).2.2.2.2.2.2) (fun g hg => h.sum hg) (fun b' g hb' hg' => ?_) (fun o' k' ho' hk' => ?_)
  · rw [hold1_orders] at ho'
    rw [hold1_lines f, hold1_kind f]
    exact ⟨h.sane.lines3 ho', h.sane.kind ho'⟩
  · rw [hold1_orders] at ho'
    rw [hold1_lines f] at hk'
    have hl := h.sane.line ho' hk'
    rw [hold1_line f, lineOk_iff]
    split
    · rename_i hq
      obtain ⟨rfl, rfl⟩ := hq
      simp only
      omega
    · exact hl
  · have hin : holdIn p s x = true := by
      rcases with_mem.1 hx with ⟨h1, _⟩ | ⟨rfl, _⟩
      · exact List.all_eq_true.1 (formed_iff.1 h.sane.form).2.2.1 x h1
      · refine holdIn_iff.2 ⟨?_, ?_, ?_⟩
        · have := f.ho; show (o : Int) < _; omega
        · have := f.hk; show (k : Int) < _; simp only [Int.toNat_natCast]; omega
        · have := f.hb; show (b : Int) < _; omega
    have := holdIn_iff.1 hin
    exact holdIn_iff.2 ⟨by rw [hold1_orders]; exact this.1, by rw [hold1_lines f]; exact this.2.1, this.2.2⟩
  · have h1 := h.bnd hb' hg'
    rw [hold1_bound h f]
    have : (hold1 s o k b m).on = s.on := rfl
    rw [this]
    split
    · rename_i hq
      obtain ⟨hq1, hq2⟩ := hq
      have hbb : b = b' := by omega
      subst hbb
      rw [hq2] at hav
      unfold avail at hav
      simp only [Int.toNat_natCast] at hav
      omega
    · omega
  · rw [hold1_orders] at ho'
    rw [hold1_lines f] at hk'
    obtain ⟨l1, l2⟩ := h.lineSum ho' hk'
    obtain ⟨g1, g2, g3⟩ := hold1_fixedLine (m := m) f o' k'
    refine lineSummed_iff.2 ?_
    rw [g2, g3, hold1_kept h f, hold1_kind f]
    have hb2 : ((hold1 s o k b m).line o' k').back = (s.line o' k').back - if (o : Int) = o' ∧ (k : Int) = k' then m else 0 := by
      rw [hold1_line f]
      by_cases hq : o' = o ∧ k' = k
      · obtain ⟨rfl, rfl⟩ := hq
        simp
      · rw [if_neg hq, if_neg (by omega)]
        omega
    rw [hb2]
    refine ⟨by omega, ?_⟩
    rintro ⟨hk2, hpos⟩
    by_cases hq : (o : Int) = o' ∧ (k : Int) = k'
    · have : o = o' := by omega
      subst this
      have := f.kind
      omega
    · rw [if_neg hq] at hpos
      exact l2 ⟨hk2, by omega⟩
end
end Wh
namespace Wh

theorem freeE_ok {p : Plan} {s : State} {b : Int} (h : checkState p s = 0) (hb : isBin p b = true) : freeE p s b = (free p s b, 0) := by
  unfold freeE
  rw [if_neg (fun hn => hn h), hb]; rfl
-- what is begun
-- what is received
theorem cell_setCell {on : List (List Int)} {b g b' g' : Nat} {n : Int} (hb : b < on.length) (hg : g < (rowAt on b).length) : cell (setCell on b g n) b' g' = if b' = b ∧ g' = g then n else cell on b' g' := cell_set hb hg
theorem sumOf_setCell {on : List (List Int)} {b g : Nat} {n : Int} (hb : b < on.length) (hg : g < (rowAt on b).length) (g' : Nat) : sumOf (setCell on b g n) g' = sumOf on g' + if g' = g then n - cell on b g else 0 := by
  unfold sumOf
  rw [length_setCell]
  by_cases h : g' = g
  · subst h
    rw [if_pos rfl]
    refine sumTo_one (i := b) hb (fun k hk hne => ?_) ?_
    · show cell _ k g' = _
      rw [cell_setCell hb hg, if_neg (by omega)]
    · show cell _ b g' = _
      rw [cell_setCell hb hg, if_pos ⟨rfl, rfl⟩]
      omega
  · rw [if_neg h, Int.add_zero]
    refine sumTo_congr fun k hk => ?_
    show cell (setCell on b g n) k g' = cell on k g'
    rw [cell_setCell hb hg, if_neg (by omega)]
theorem sumsOk_set {p : Plan} {l : List Int} {lo : Int} (h : sumsOk p l lo = true) {g : Nat} (hg : g < l.length) {n : Int} (h1 : lo ≤ n) (h2 : n ≤ 1048576) : sumsOk p (l.set g n) lo = true := by
  obtain ⟨h3, h4⟩ := sumsOk_iff.1 h
  refine sumsOk_iff.2 ⟨by simpa using h3, all_of 0 fun k hk => ?_⟩
  have e : (l.set g n).getD k 0 = if k = g then n else intAt l k := intAt_set hg
  rw [e]
  split
  · exact within_iff.2 ⟨h1, h2⟩
  · exact all_at 0 h4 (by simpa using hk)
theorem received {p : Plan} {s : State} {b g : Nat} {n : Int} (h : checkState p s = 0) (hb : b < p.bins.length) (hg : g < p.sizes.length) (hn : 1 ≤ n) (h2 : cell s.on b g + coming s b g + n ≤ 200) (h3 : intAt s.inn g + n ≤ 1048576) :
    checkState p { s with on := setCell s.on b g (cell s.on b g + n), inn := s.inn.set g (intAt s.inn g + n) } = 0 := by
  obtain ⟨hr, hgot⟩ := check_iff.1 h
  have hs := hr.sane
  have hbl : b < s.on.length := by rw [hs.onLen]; exact hb
  have hgl : g < (rowAt s.on b).length := by rw [hs.rowLen hb]; exact hg
  have hgi : g < s.inn.length := by rw [hs.inn.1]; exact hg
  have hcell := hs.cell hb hg
  have hinn := hs.inn.2 hg
  have hcom := coming_range hs b g
  refine check_iff.2 ⟨Right.of (Sane.of ?_ hs.orders4 hs.moves8 (fun o ho => ⟨hs.lines3 ho, hs.kind ho⟩) (fun o k ho hk => lineOk_iff.2 (hs.line ho hk)) hs.holds (fun x hx => List.all_eq_true.1 (formed_iff.1 hs.form).2.2.1 x hx) (fun x hx => List.all_eq_true.1 (formed_iff.1 hs.form).2.2.2.1 x hx)
    (sumsOk_set (formed_iff.1 hs.form).2.2.2.2.1 hgi (by omega) h3) (formed_iff.1 hs.form).2.2.2.2.2.1 (formed_iff.1 hs.form).2.2.2.2.2.2) (fun g' hg' => ?_) (fun b' g' hb' hg' => ?_) hr.line, hgot⟩
  · exact checkShelf_zero.2 ⟨hs.plan, setCell_ok (checkShelf_zero.1 hs.shelf).2 (by omega) hb hg⟩
  · show sumOf (setCell s.on b g (cell s.on b g + n)) g' = intAt (s.inn.set g (intAt s.inn g + n)) g' - intAt s.out g' + intAt s.fixed g'
    rw [sumOf_setCell hbl hgl, intAt_set hgi, hr.sum hg']
    by_cases e : g' = g
    · subst e
      rw [if_pos rfl, if_pos rfl]
      omega
    · rw [if_neg e, if_neg e]
      omega
  · show bound s b' g' ≤ cell (setCell s.on b g (cell s.on b g + n)) b' g'
    have := hr.bnd hb' hg'
    rw [cell_setCell hbl hgl]
    split
    · rename_i e
      obtain ⟨rfl, rfl⟩ := e
      omega
    · exact this
-- what is entered
end Wh
namespace Wh
open Go Go.RowKit Go.Shelf Go.Proofs
attribute [local go_sem] run_indexAt_letter

set_option maxHeartbeats 400000 in
theorem cmpNaN (n : Int) (w : World) : Calls Try.prog 65 #[.int .i64 n] w fun e w' => e = .returned (.bool false) ∧ w = w' := by
  go_enter Try.func65, Try.ntmps65
  go_wp2
  go_ret
  exact ⟨by simp, rfl⟩
set_option maxHeartbeats 400000 in
theorem cmpCompare (a b : Int) (w : World) : Calls Try.prog 64 #[.int .i64 a, .int .i64 b] w fun e w' => e = .returned (.int .i64 (cmp3 a b)) ∧ w = w' := by
  rcases cmp3_cases a b with ⟨h1, h2⟩ | ⟨h1, h2⟩ | ⟨h1, h2⟩
  · go_enter Try.func64, Try.ntmps64
    go_wp2_with (go_at_call 65; refine (cmpNaN _ _).mono ?_; rintro e w' ⟨rfl, rfl⟩)
    go_ret
    exact ⟨ret_int h2.symm, rfl⟩
  · go_enter Try.func64, Try.ntmps64
    go_wp2_with (go_at_call 65; refine (cmpNaN _ _).mono ?_; rintro e w' ⟨rfl, rfl⟩)
    go_ret
    exact ⟨ret_int h2.symm, rfl⟩
  · subst h1
    go_enter Try.func64, Try.ntmps64
    go_wp2_with (go_at_call 65; refine (cmpNaN _ _).mono ?_; rintro e w' ⟨rfl, rfl⟩)
    go_ret
    exact ⟨ret_int h2.symm, rfl⟩

def or3 (a b c : Int) : Int := if a ≠ 0 then a else if b ≠ 0 then b else c
set_option maxHeartbeats 1000000 in
theorem cmpOr (a b c : Int) (w : World) (bl off k : Nat) (h0 : w.cell? ⟨bl, off, none⟩ = some (.int .i64 a)) (h1 : w.cell? ⟨bl, off + 1, none⟩ = some (.int .i64 b)) (h2 : w.cell? ⟨bl, off + 2, none⟩ = some (.int .i64 c)) :
    Calls Try.prog 63 #[.slice (some ⟨bl, off, none⟩) 3 k] w fun e w' => e = .returned (.int .i64 (or3 a b c)) ∧ w = w' := by
  by_cases ha : a = 0
  · subst ha
    by_cases hb : b = 0
    · subst hb
      have hfin : or3 0 0 c = c := by simp [or3]
      by_cases hc : c = 0
      · subst hc
        go_enter Try.func63, Try.ntmps63
        go_wp2_with fail
        refine wp_loop_rounds 4 ?_
        rw [rounds_succ]
        go_wp2_with fail
        rw [rounds_succ]
        go_wp2_with fail
        rw [rounds_succ]
        go_wp2_with fail
        rw [rounds_succ]
        go_wp2_with fail
        go_ret
        exact ⟨ret_int hfin.symm, rfl⟩
      · have hc' : (c != 0) = true := by simpa using hc
        go_enter Try.func63, Try.ntmps63
        go_wp2_with fail
        refine wp_loop_rounds 4 ?_
        rw [rounds_succ]
        go_wp2_with fail
        rw [rounds_succ]
        go_wp2_with fail
        rw [rounds_succ]
        go_wp2_with fail
        go_ret
        exact ⟨ret_int hfin.symm, rfl⟩
    · have hfin : or3 0 b c = b := by simp [or3, hb]
      have hb' : (b != 0) = true := by simpa using hb
      go_enter Try.func63, Try.ntmps63
      go_wp2_with fail
      refine wp_loop_rounds 4 ?_
      rw [rounds_succ]
      go_wp2_with fail
      rw [rounds_succ]
      go_wp2_with fail
      go_ret
      exact ⟨ret_int hfin.symm, rfl⟩
  · have hfin : or3 a b c = a := by simp [or3, ha]
    have ha' : (a != 0) = true := by simpa using ha
    go_enter Try.func63, Try.ntmps63
    go_wp2_with fail
    refine wp_loop_rounds 4 ?_
    rw [rounds_succ]
    go_wp2_with fail
    go_ret
    exact ⟨ret_int hfin.symm, rfl⟩

set_option maxHeartbeats 400000 in
theorem hdOrder (a b : Hold) (w : World) : Calls Try.prog 58 #[vHold a, vHold b] w fun e w' => e = .returned (.int .i64 (ord a b)) ∧ Below w.heap.size w w' := by
  unfold vHold
  go_enter Try.func58, Try.ntmps58
  go_wp2_with fail
  go_region_held3 (fun w' => w'.cell? ⟨w.heap.size, 0, none⟩ = some (.int .i64 a.order) ∧ w'.cell? ⟨w.heap.size, 1, none⟩ = some (.int .i64 a.line) ∧ w'.cell? ⟨w.heap.size, 2, none⟩ = some (.int .i64 a.bin) ∧
    w'.cell? ⟨w.heap.size + 1, 0, none⟩ = some (.int .i64 b.order) ∧ w'.cell? ⟨w.heap.size + 1, 1, none⟩ = some (.int .i64 b.line) ∧ w'.cell? ⟨w.heap.size + 1, 2, none⟩ = some (.int .i64 b.bin)) (first | go_keep)
    (first
    | (go_at_call 64; refine (cmpCompare _ _ _).mono ?_; rintro e w' ⟨rfl, rfl⟩)
    | (go_at_call 63; refine (cmpOr (cmp3 a.order b.order) (cmp3 a.line b.line) (cmp3 a.bin b.bin) _ _ _ _ (by go_simp) (by go_simp) (by go_simp)).mono ?_; rintro e w' ⟨rfl, rfl⟩))
  go_wp2_with fail
  go_ret
  exact ⟨rfl, ((((Below.refl _ _).alloc (Nat.le_refl _) _).alloc (by simp) _).alloc (by simp; omega) _).drew⟩

end Wh
namespace Wh
open Go Go.RowKit Go.Shelf Go.Proofs
attribute [local go_sem] run_indexAt_letter

theorem hold_parts (h : Hold) : (min (min h.order h.line) h.bin < 0 ∧ holdFine h = false) ∨ (0 ≤ min (min h.order h.line) h.bin ∧ 4 ≤ h.order ∧ holdFine h = false) ∨
    (0 ≤ min (min h.order h.line) h.bin ∧ h.order < 4 ∧ 3 ≤ h.line ∧ holdFine h = false) ∨ (0 ≤ min (min h.order h.line) h.bin ∧ h.order < 4 ∧ h.line < 3 ∧ 6 ≤ h.bin ∧ holdFine h = false) ∨
    (0 ≤ min (min h.order h.line) h.bin ∧ h.order < 4 ∧ h.line < 3 ∧ h.bin < 6 ∧ h.n < 1 ∧ holdFine h = false) ∨ (0 ≤ min (min h.order h.line) h.bin ∧ h.order < 4 ∧ h.line < 3 ∧ h.bin < 6 ∧ 1 ≤ h.n ∧ 200 < h.n ∧ holdFine h = false) ∨
    (0 ≤ min (min h.order h.line) h.bin ∧ h.order < 4 ∧ h.line < 3 ∧ h.bin < 6 ∧ 1 ≤ h.n ∧ h.n ≤ 200 ∧ holdFine h = true) := by
  have hi := @fine_iff h
  unfold keyOk at hi
  cases hf : holdFine h
  · rw [hf] at hi
    simp only [Bool.false_eq_true, false_iff] at hi
    simp only [and_true, reduceCtorEq, and_false, or_false]
    omega
  · rw [hf] at hi
    simp only [true_iff] at hi
    simp only [and_true, reduceCtorEq, and_false, false_or]
    omega

set_option maxHeartbeats 1000000 in
theorem hdFine (h : Hold) (w : World) : Calls Try.prog 57 #[vHold h] w fun e w' => e = .returned (.bool (holdFine h)) ∧ Below w.heap.size w w' := by
  unfold vHold
  rcases hold_parts h with ⟨g1, hf⟩ | ⟨g1, g2, hf⟩ | ⟨g1, g2, g3, hf⟩ | ⟨g1, g2, g3, g4, hf⟩ | ⟨g1, g2, g3, g4, g5, hf⟩ | ⟨g1, g2, g3, g4, g5, g6, hf⟩ | ⟨g1, g2, g3, g4, g5, g6, hf⟩
  all_goals
    have hf' := Lib.hid hf
    clear hf
    go_enter Try.func57, Try.ntmps57
    go_wp2
    all_goals
      go_ret
      exact ⟨ret_bool (by rw [hf'.out] <;> first | rfl | (simp <;> omega)), (Below.refl _ _).alloc (Nat.le_refl _) _⟩

def stepOk (l : List Hold) (k : Nat) : Bool := holdFine (hold l k) && (decide (k = 0) || decide (place (hold l (k - 1)) < place (hold l k)))
theorem holds_step {l : List Hold} {k : Nat} (hk : k < l.length) (h : stepOk l k = false) : checkHolds l = 1 := by
  unfold checkHolds
  rw [if_neg]
  intro hc
  have := List.all_eq_true.1 hc k (List.mem_range.2 hk)
  unfold stepOk at h
  rw [h] at this
  cases this
theorem holds_all {l : List Hold} (h : ∀ k, k < l.length → stepOk l k = true) : checkHolds l = 0 := by
  unfold checkHolds
  rw [if_pos]
  exact List.all_eq_true.2 fun k hk => h k (List.mem_range.1 hk)
theorem step_fine {l : List Hold} {k : Nat} (h : stepOk l k = true) : holdFine (hold l k) = true := by
  unfold stepOk at h
  simp only [Bool.and_eq_true] at h
  exact h.1
theorem step_no {l : List Hold} {k : Nat} (h : holdFine (hold l k) = false) : stepOk l k = false := by
  unfold stepOk
  rw [h]; rfl
theorem step_zero {l : List Hold} (h : holdFine (hold l 0) = true) : stepOk l 0 = true := by
  unfold stepOk
  rw [h]; rfl
theorem step_succ {l : List Hold} {k : Nat} (h : holdFine (hold l (k + 1)) = true) : stepOk l (k + 1) = decide (place (hold l k) < place (hold l (k + 1))) := by
  unfold stepOk
  rw [h]
  simp
theorem step_ord {l : List Hold} {k : Nat} (h : holdFine (hold l (k + 1)) = true) (h0 : holdFine (hold l k) = true) : stepOk l (k + 1) = decide (ord (hold l k) (hold l (k + 1)) < 0) := by
  rw [step_succ h]
  congr 1
  rw [ord_place (fine_iff.1 h0).1 (fine_iff.1 h).1]

set_option maxHeartbeats 1000000 in
theorem hdCheck (w : World) (v : Value) (l : List Hold) (hv : Sl cHold w w.heap.size v l) :
    Calls Try.prog 43 #[v] w fun e w' => e = .returned (.int .i64 (checkHolds l)) ∧ Below w.heap.size w w' := by
  obtain ⟨A, c, rfl, hl, hA⟩ := hv
  go_enter Try.func43, Try.ntmps43
  go_wp2_with fail
  go_loopw [7, 3, 4] (fun i _ _ wr => ∃ k : Nat, k ≤ l.length ∧ i = .int .i64 k ∧ (∀ j, j < k → stepOk l j = true) ∧ Below w.heap.size w wr) (fun i _ _ _ => l.length - (intOf i).toNat)
  case atStart => exact ⟨0, Nat.zero_le _, rfl, fun j hj => by omega, Below.refl _ _⟩
  case round =>
    obtain ⟨k, hk, rfl, hall, hbw⟩ := hrel
    by_cases hlt : k < l.length
    · obtain ⟨hok, hAb, b0, b1, b2, b3⟩ := (hA.up hbw hbw.size).hold hlt
      have hba : Below w.heap.size w (wr.alloc (.cells #[.int .i64 (hold l k).order, .int .i64 (hold l k).line, .int .i64 (hold l k).bin, .int .i64 (hold l k).n] 65)) := hbw.alloc hbw.size _
      have q0 := fun o d os => cells_wld (w := wr.alloc (.cells #[.int .i64 (hold l k).order, .int .i64 (hold l k).line, .int .i64 (hold l k).bin, .int .i64 (hold l k).n] 65)) (b := wr.heap.size) (by simp) o d os
      cases hf : holdFine (hold l k)
      · go_wp2_with fail
        refine wp_region_wld (by kernel_rfl) (by kernel_rfl) ?_
        repeat (go_big_quiet_step ((go_at_call 57; refine calls_wld (hdFine (hold l k) _))))
        refine wpQuiet_nil ?_
        intro W2 hw'
        have hb2 := below_of_cls hw'
        clear hw'
        go_wp2_with fail
        go_ret
        exact ⟨ret_int (holds_step hlt (step_no hf)).symm, hba.trans (hb2.mono hba.size)⟩
      · rcases k with _ | m
        · have hst := step_zero hf
          simp only [Nat.zero_mul, Nat.add_zero] at b0 b1 b2 b3
          go_wp2_with fail
          refine wp_region_wld (by kernel_rfl) (by kernel_rfl) ?_
          repeat (go_big_quiet_step ((go_at_call 57; refine calls_wld (hdFine (hold l 0) _))))
          refine wpQuiet_nil ?_
          intro W2 hw'
          have hb2 := below_of_cls hw'
          clear hw'
          go_wp2_with fail
          go_roundw
          case rel => exact ⟨1, by omega, by go_num, fun j hj => by (obtain rfl : j = 0 := by omega); exact hst, hba.trans (hb2.mono hba.size)⟩
          case measure => simp [intOf]; omega
        · obtain ⟨_, _, c0, c1, c2, c3⟩ := (hA.up hbw hbw.size).hold (show m < l.length by omega)
          have qA := fun o d os => cells_wld (w := wr.alloc (.cells #[.int .i64 (hold l (m + 1)).order, .int .i64 (hold l (m + 1)).line, .int .i64 (hold l (m + 1)).bin, .int .i64 (hold l (m + 1)).n] 65)) (b := ablk A) (by simp; omega) o d os
          have hst := step_ord hf (step_fine (hall m (by omega)))
          by_cases ho : ord (hold l m) (hold l (m + 1)) < 0
          · have hst' := Lib.hid (show stepOk l (m + 1) = true by rw [hst]; simpa using ho)
            clear hst
            go_wp2_with fail
            refine wp_region_wld (by kernel_rfl) (by kernel_rfl) ?_
            repeat (go_big_quiet_step ((first | (go_at_call 57; refine calls_wld (hdFine (hold l (m + 1)) _)) | (go_at_call 58; refine calls_wld (hdOrder (hold l m) (hold l (m + 1)) _)))))
            refine wpQuiet_nil ?_
            intro W2 hw'
            have hb2 := below_of_cls hw'
            clear hw'
            go_wp2_with fail
            go_roundw
            case rel =>
              refine ⟨m + 2, by omega, by go_num, fun j hj => ?_, hba.trans (hb2.mono hba.size)⟩
              rcases Nat.lt_succ_iff_lt_or_eq.1 hj with h | rfl
              · exact hall j h
              · exact hst'.out
            case measure => simp [intOf]; omega
          · have hst' := Lib.hid (show stepOk l (m + 1) = false by rw [hst]; simpa using ho)
            have ho' : 0 ≤ ord (hold l m) (hold l (m + 1)) := by omega
            clear hst ho
            go_wp2_with fail
            refine wp_region_wld (by kernel_rfl) (by kernel_rfl) ?_
            repeat (go_big_quiet_step ((first | (go_at_call 57; refine calls_wld (hdFine (hold l (m + 1)) _)) | (go_at_call 58; refine calls_wld (hdOrder (hold l m) (hold l (m + 1)) _)))))
            refine wpQuiet_nil ?_
            intro W2 hw'
            have hb2 := below_of_cls hw'
            clear hw'
            go_wp2_with fail
            go_ret
            exact ⟨ret_int (holds_step hlt hst'.out).symm, hba.trans (hb2.mono hba.size)⟩
    · obtain rfl : k = l.length := by omega
      have hfin := Lib.hid (holds_all hall)
      go_wp2_with fail
      go_ret
      exact ⟨ret_int hfin.out.symm, hbw⟩

end Wh
namespace Wh
open Go Go.RowKit Go.Shelf Go.Proofs
attribute [local go_sem] run_indexAt_letter

theorem line_cases (o ln : Int) (h : Hold) : ((h.order == o) = false ∧ sameLine o ln h = false) ∨ ((h.order == o) = true ∧ (h.line == ln) = false ∧ sameLine o ln h = false) ∨
    ((h.order == o) = true ∧ (h.line == ln) = true ∧ sameLine o ln h = true) := by
  unfold sameLine
  by_cases h1 : h.order = o <;> by_cases h2 : h.line = ln <;> simp [h1, h2]
def keptTo (l : List Hold) (o ln : Int) (k : Nat) : Int := kept (l.take k) o ln
theorem keptTo_yes {l : List Hold} {o ln : Int} {k : Nat} (hk : k < l.length) (h : sameLine o ln (hold l k) = true) : keptTo l o ln (k + 1) = keptTo l o ln k + (hold l k).n := by
  unfold keptTo kept
  rw [List.take_succ_eq_append_getElem hk, List.filter_append, ← hold_get hk, List.filter_cons, h]
  simp
theorem keptTo_no {l : List Hold} {o ln : Int} {k : Nat} (hk : k < l.length) (h : sameLine o ln (hold l k) = false) : keptTo l o ln (k + 1) = keptTo l o ln k := by
  unfold keptTo kept
  rw [List.take_succ_eq_append_getElem hk, List.filter_append, ← hold_get hk, List.filter_cons, h]
  simp
theorem ok_take {l : List Hold} (h : holdsOk l = true) (k : Nat) : holdsOk (l.take k) = true := by
  obtain ⟨g1, g2⟩ := holdsOk_iff.1 h
  exact holdsOk_iff.2 ⟨fun x hx => g1 x (List.mem_of_mem_take hx), g2.sublist (List.take_sublist k l)⟩
theorem check_ok {l : List Hold} : checkHolds l = 0 ↔ holdsOk l = true := by
  unfold checkHolds
  cases holdsOk l <;> simp

set_option maxHeartbeats 1000000 in
theorem hdKept (w : World) (v : Value) (l : List Hold) (o ln : Int) (hv : Sl cHold w w.heap.size v l) :
    Calls Try.prog 51 #[v, .int .i64 o, .int .i64 ln] w fun e w' => e = .returned (.tuple #[.int .i64 (keptE l o ln).1, .int .i64 (keptE l o ln).2]) ∧ Below w.heap.size w w' := by
  have hV := hv
  obtain ⟨A, c, rfl, hl, hA⟩ := hv
  go_enter Try.func51, Try.ntmps51
  go_wp2_with fail
  refine (hdCheck _ _ _ hV).mono ?_
  rintro e W1 ⟨rfl, hb1⟩
  cases hok : holdsOk l
  · have hc : checkHolds l = 1 := by unfold checkHolds; rw [hok]; rfl
    have hk : keptE l o ln = (0, 1) := by unfold keptE; rw [hok]; rfl
    have hk' := Lib.hid hk
    rw [hc]
    clear hc hk
    go_wp2_with fail
    go_ret2
    exact ⟨ret2 (by rw [hk'.out]; rfl) (by rw [hk'.out]; rfl), hb1⟩
  · have hc : checkHolds l = 0 := check_ok.2 hok
    have hk : keptE l o ln = (kept l o ln, 0) := by unfold keptE; rw [hok]; rfl
    have hrg := fun k => kept_range (ok_take hok k) o ln
    have hrg' := Lib.hid hrg
    have hk' := Lib.hid hk
    rw [hc]
    clear hc hk hok hrg
    go_wp2_with fail
    go_loopw [9, 19, 11] (fun n i _ wr => ∃ k : Nat, k ≤ l.length ∧ i = .int .i64 k ∧ n = .int .i64 (keptTo l o ln k) ∧ Below W1.heap.size W1 wr) (fun _ i _ _ => l.length - (intOf i).toNat)
    case atStart => exact ⟨0, Nat.zero_le _, rfl, rfl, Below.refl _ _⟩
    case round =>
      obtain ⟨k, hk, rfl, rfl, hbw⟩ := hrel
      obtain ⟨u1, u2⟩ := hrg'.out k
      change 0 ≤ keptTo l o ln k at u1
      change keptTo l o ln k ≤ 1200 at u2
      by_cases hlt : k < l.length
      · have hb01 := hb1.trans (hbw.mono hb1.size)
        obtain ⟨hok, hAb, b0, b1, b2, b3⟩ := (hA.up hb01 hb01.size).hold hlt
        obtain ⟨u3, u4⟩ := hrg'.out (k + 1)
        change 0 ≤ keptTo l o ln (k + 1) at u3
        change keptTo l o ln (k + 1) ≤ 1200 at u4
        rcases line_cases o ln (hold l k) with ⟨g1, hs⟩ | ⟨g1, g2, hs⟩ | ⟨g1, g2, hs⟩
        · have hs' := Lib.hid (keptTo_no hlt hs)
          clear hs
          go_wp2_with fail
          go_roundw
          case rel => exact ⟨k + 1, by omega, by go_num, by rw [hs'.out], hbw.alloc hbw.size _⟩
          case measure => simp [intOf]; omega
        · have hs' := Lib.hid (keptTo_no hlt hs)
          clear hs
          go_wp2_with fail
          go_roundw
          case rel => exact ⟨k + 1, by omega, by go_num, by rw [hs'.out], hbw.alloc hbw.size _⟩
          case measure => simp [intOf]; omega
        · have hs' := Lib.hid (keptTo_yes hlt hs)
          rw [hs'.out] at u3 u4
          clear hs
          go_wp2_with fail
          go_roundw
          case rel => exact ⟨k + 1, by omega, by go_num, by rw [hs'.out], hbw.alloc hbw.size _⟩
          case measure => simp [intOf]; omega
      · obtain rfl : k = l.length := by omega
        have hfin := Lib.hid (show keptTo l o ln l.length = kept l o ln by unfold keptTo; rw [List.take_length])
        go_wp2_with fail
        go_ret2
        exact ⟨ret2 (by rw [hk'.out, ← hfin.out]; rfl) (by rw [hk'.out]; rfl), hb1.trans (hbw.mono hb1.size)⟩

end Wh
namespace Wh
open Go Go.RowKit Go.Shelf Go.Proofs
attribute [local go_sem] run_indexAt_letter

theorem SlSl.nil {w : World} {B : Nat} : SlSl cInt w B (.slice none 0 0) [] := ⟨none, 0, [], rfl, by simp, rfl, At.nil, fun i x h => by simp at h⟩
end Wh
namespace Wh
open Go Go.RowKit Go.Shelf Go.Proofs
attribute [local go_sem] run_indexAt_letter

set_option maxHeartbeats 1000000 in
theorem lYard (w : World) : Calls Try.prog 15 #[] w (Gives (fun u w' => PlanV w' w'.heap.size u yardP) w) := by
  go_enter Try.func15, Try.ntmps15
  go_wp2_with fail
  refine bodyPost_ret (v := .agg #[.slice (some ⟨w.heap.size + 1, 0, none⟩) 3 3, .slice (some ⟨w.heap.size + 1 + 1, 0, none⟩) 2 2]) (by simp [results, Try.results15, go_sem]) rfl ?_
  have b1 := Own.lit (base := 0) (enc := cBin) (size := 4) (w.alloc (.cells #[.slice (some ⟨w.heap.size + 1, 0, none⟩) 3 3, .slice (some ⟨w.heap.size + 1 + 1, 0, none⟩) 2 2] 25)) 73
    #[.bool false, .int .i64 100, .int .i64 0, .int .i64 0, .bool true, .int .i64 30, .int .i64 4, .int .i64 8, .bool false, .int .i64 60, .int .i64 0, .int .i64 0] yardP.bins (Nat.zero_le _) (by decide) (fun _ => rfl) rfl
  have b2 := b1.alloc (.cells #[.int .i64 2, .int .i64 3] 3)
  have b3 := Own.lit (base := 0) (enc := cInt) (size := 1) ((w.alloc (.cells #[.slice (some ⟨w.heap.size + 1, 0, none⟩) 3 3, .slice (some ⟨w.heap.size + 1 + 1, 0, none⟩) 2 2] 25)).alloc
    (.cells #[.bool false, .int .i64 100, .int .i64 0, .int .i64 0, .bool true, .int .i64 30, .int .i64 4, .int .i64 8, .bool false, .int .i64 60, .int .i64 0, .int .i64 0] 73)) 3 #[.int .i64 2, .int .i64 3] yardP.sizes (Nat.zero_le _) (by decide) (fun _ => rfl) rfl
  simp only [World.size_alloc] at b2 b3
  exact ⟨_, rfl, ⟨_, _, rfl, b2.sl (by decide), b3.sl (by decide)⟩, (((Below.refl _ _).alloc (Nat.le_refl _) _).alloc (by simp) _).alloc (by simp; omega) _⟩

end Wh
namespace Wh
open Go Go.RowKit Go.Shelf Go.Proofs
attribute [local go_sem] run_indexAt_letter

theorem Blk.two (w : World) (cs cs' : Array Value) (e e' : TypeId) : Blk ((w.alloc (.cells cs e)).alloc (.cells cs' e')).drew (w.heap.size + 1) e' cs'.toList := by
  have := Blk.new (w.alloc (.cells cs e)) e' cs'
  have h : Blk ((w.alloc (.cells cs e)).alloc (.cells cs' e')) (w.heap.size + 1) e' cs'.toList := by simpa using this
  exact h.drew
theorem Sl.len {α : Type} {enc : α → List Value} {w : World} {B : Nat} {v : Value} {l : List α} (h : Sl enc w B v l) : l.length ≤ 140737488355232 := let ⟨_, _, _, h, _⟩ := h; h
end Wh
