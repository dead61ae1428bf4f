/- Texts of the claim, joined: PlainI. -/
import Derived.Test.YtnjgkhcnialplaaP20
namespace Wh

theorem State.ext' {a b : State} (h1 : a.on = b.on) (h2 : a.orders = b.orders) (h3 : a.holds = b.holds) (h4 : a.moves = b.moves) (h5 : a.inn = b.inn) (h6 : a.out = b.out) (h7 : a.fixed = b.fixed) : a = b := by
  cases a; cases b; simp only at h1 h2 h3 h4 h5 h6 h7; subst h1 h2 h3 h4 h5 h6 h7; rfl

/-- t is what comes of holding d more for a line. -/
structure Held (p : Plan) (s t : State) (o k : Nat) (d : Int) : Prop where
  right : Right p t
  on : t.on = s.on
  moves : t.moves = s.moves
  inn : t.inn = s.inn
  out : t.out = s.out
  fixed : t.fixed = s.fixed
  orders : t.orders.length = s.orders.length
  kind : ∀ o', (t.order o').kind = (s.order o').kind
  lines : ∀ o', (t.order o').lines.length = (s.order o').lines.length
  line : ∀ o' k', (t.line o' k').good = (s.line o' k').good ∧ (t.line o' k').want = (s.line o' k').want ∧ (t.line o' k').got = (s.line o' k').got
  back : ∀ o' k', (t.line o' k').back = (s.line o' k').back - if o' = o ∧ k' = k then d else 0
  keptAt : ∀ o' k' b' : Int, ¬ (o' = (o : Int) ∧ k' = (k : Int)) → Wh.keptAt t.holds o' k' b' = Wh.keptAt s.holds o' k' b'
  kept : ∀ o' k' : Int, Wh.kept t.holds o' k' = Wh.kept s.holds o' k' + if o' = (o : Int) ∧ k' = (k : Int) then d else 0
  other : ∀ b g : Int, g ≠ (s.line o k).good → Wh.bound t b g = Wh.bound s b g
  more : ∀ b g : Int, Wh.bound s b g ≤ Wh.bound t b g
  least : ∀ o' k' b' : Int, Wh.keptAt s.holds o' k' b' ≤ Wh.keptAt t.holds o' k' b'

namespace Held
variable {p : Plan} {s t u : State} {o k : Nat} {d d' : Int}
theorem refl (h : Right p s) : Held p s s o k 0 := by
  refine ⟨h, rfl, rfl, rfl, rfl, rfl, rfl, fun _ => rfl, fun _ => rfl, fun _ _ => ⟨rfl, rfl, rfl⟩, fun _ _ => by split <;> omega, fun _ _ _ _ => rfl, fun _ _ => by split <;> omega, fun _ _ _ => rfl, fun _ _ => Int.le_refl _, fun _ _ _ => Int.le_refl _⟩
theorem trans (h : Held p s t o k d) (h' : Held p t u o k d') : Held p s u o k (d + d') := by
  refine ⟨h'.right, h'.on.trans h.on, h'.moves.trans h.moves, h'.inn.trans h.inn, h'.out.trans h.out, h'.fixed.trans h.fixed, h'.orders.trans h.orders, fun o' => (h'.kind o').trans (h.kind o'), fun o' => (h'.lines o').trans (h.lines o'), fun o' k' => ?_, fun o' k' => ?_, fun o' k' b' hn => (h'.keptAt o' k' b' hn).trans (h.keptAt o' k' b' hn), fun o' k' => ?_, fun b g hg => ?_, fun b g => Int.le_trans (h.more b g) (h'.more b g), fun _ _ _ => Int.le_trans (h.least _ _ _) (h'.least _ _ _)⟩
  · obtain ⟨a1, a2, a3⟩ := h.line o' k'
    obtain ⟨b1, b2, b3⟩ := h'.line o' k'
    exact ⟨b1.trans a1, b2.trans a2, b3.trans a3⟩
  · rw [h'.back, h.back]
    split <;> omega
  · rw [h'.kept, h.kept]
    split <;> omega
  · rw [h'.other b g (by rw [(h.line o k).1]; exact hg), h.other b g hg]
theorem one {b : Nat} {m : Int} (h : Right p s) (f : Fits p s o k b m) : Held p s (hold1 s o k b m) o k m := by
  have hm := f.m1
  refine ⟨hold1_right h f, rfl, rfl, rfl, rfl, rfl, hold1_orders, fun o' => hold1_kind f o', fun o' => hold1_lines f o', fun o' k' => hold1_fixedLine f o' k', fun o' k' => ?_, fun o' k' b' hn => ?_, fun o' k' => ?_, fun b' g hg => ?_, fun b' g => ?_, fun o' k' b' => ?_⟩
  · rw [hold1_line f]
    split
    · rename_i hq
      obtain ⟨rfl, rfl⟩ := hq
      rfl
    · omega
  · rw [hold1_keptAt h f, if_neg (by omega), Int.add_zero]
  · rw [hold1_kept h f]
    congr 1
    split <;> split <;> omega
  · rw [hold1_bound h f, if_neg (fun hq => hg hq.2.symm), Int.add_zero]
  · rw [hold1_bound h f]
    split <;> omega
  · rw [hold1_keptAt h f]
    split <;> omega
theorem cast (h : Held p s t o k d) (e : d = d') : Held p s t o k d' := e ▸ h
theorem avail_le (h : Held p s t o k d) (b g : Int) : avail t b g ≤ avail s b g := by
  have := h.more b g
  unfold avail
  rw [h.on]
  omega
theorem avail_other (h : Held p s t o k d) (b : Int) {g : Int} (hg : g ≠ (s.line o k).good) : avail t b g = avail s b g := by
  unfold avail
  rw [h.on, h.other b g hg]
/-- All was got just if it was before. -/
theorem allGot (h : Held p s t o k d) {o' : Nat} : Wh.allGot (t.order o') = Wh.allGot (s.order o') := by
  rw [Bool.eq_iff_iff, allGot_iff, allGot_iff, h.lines]
  constructor
  · intro hh k' hk'
    have := hh k' hk'
    have e := h.line o' k'
    unfold State.line at e
    rw [e.2.1, e.2.2] at this
    exact this
  · intro hh k' hk'
    have := hh k' hk'
    have e := h.line o' k'
    unfold State.line at e
    rw [e.2.1, e.2.2]
    exact this
theorem check (h : Held p s t o k d) (hs : checkState p s = 0) : checkState p t = 0 := by
  refine check_iff.2 ⟨h.right, fun o' ho' => ?_⟩
  rw [h.kind, h.allGot]
  exact (check_iff.1 hs).2 o' (by rw [← h.orders]; exact ho')
end Held

section
variable {p : Plan} {o k : Nat} {but : Int}
/-- What a line needs so that something may be held for it. -/
structure May (s : State) (o k : Nat) (n : Int) : Prop where
  ho : o < s.orders.length
  hk : k < (s.order o).lines.length
  kind : (s.order o).kind = 1
  n0 : 0 ≤ n
  back : n ≤ (s.line o k).back
theorem May.held {s t : State} {n d : Int} (h : May s o k n) (hh : Held p s t o k d) (hd : d ≤ n) : May t o k (n - d) := by
  refine ⟨by rw [hh.orders]; exact h.ho, by rw [hh.lines]; exact h.hk, by rw [hh.kind]; exact h.kind, by omega, ?_⟩
  rw [hh.back, if_pos ⟨rfl, rfl⟩]
  have := h.back
  omega
theorem May.fits {s : State} {n : Int} (h : May s o k n) {b : Nat} {m : Int} (hb : b < p.bins.length) (h1 : 1 ≤ m) (hn : m ≤ n) (ha : m ≤ avail s b (s.line o k).good) : Fits p s o k b m :=
  ⟨h.ho, h.hk, hb, h.kind, h1, ha, by have := h.back; omega⟩
theorem May.good {s : State} {n : Int} (h : May s o k n) (hs : Right p s) : ((s.line o k).good.toNat : Int) = (s.line o k).good ∧ (s.line o k).good.toNat < p.sizes.length := by
  have := (hs.sane.line h.ho h.hk).1
  omega
theorem May.avail {s : State} {n : Int} (h : May s o k n) (hs : Right p s) {b : Nat} (hb : b < p.bins.length) : 0 ≤ avail s b (s.line o k).good := by
  obtain ⟨e, hg⟩ := h.good hs
  have := (hs.avail_range hb hg).1
  rwa [e] at this

theorem takeGo_skip {b : Nat} {r : List Nat} {s : State} {n : Int} (h : (b : Int) = but ∨ min n (avail s b (s.line o k).good) < 1) : takeGo o k but (b :: r) s n = takeGo o k but r s n := by
  rw [takeGo]; exact if_pos h
theorem takeGo_one {b : Nat} {r : List Nat} {s : State} {n : Int} (h : ¬ (b : Int) = but) (h1 : 1 ≤ min n (avail s b (s.line o k).good)) :
    takeGo o k but (b :: r) s n = takeGo o k but r (hold1 s o k b (min n (avail s b (s.line o k).good))) (n - min n (avail s b (s.line o k).good)) := by
  rw [takeGo]; exact if_neg (by omega)
theorem takeGo_zero : ∀ {bs : List Nat} {s : State} {n : Int}, n < 1 → takeGo o k but bs s n = (s, n)
  | [], _, _, _ => rfl
  | b :: r, s, n, h => by rw [takeGo_skip (.inr (by omega)), takeGo_zero h]
theorem takeGo_append : ∀ {xs ys : List Nat} {s : State} {n : Int}, takeGo o k but (xs ++ ys) s n = takeGo o k but ys (takeGo o k but xs s n).1 (takeGo o k but xs s n).2
  | [], _, _, _ => rfl
  | b :: r, ys, s, n => by
    rw [List.cons_append]
    by_cases h : (b : Int) = but ∨ min n (avail s b (s.line o k).good) < 1
    · rw [takeGo_skip h, takeGo_skip h, takeGo_append]
    · rw [takeGo_one (by omega) (by omega), takeGo_one (by omega) (by omega), takeGo_append]

theorem takeGo_held : ∀ {bs : List Nat} {s : State} {n : Int}, Right p s → (∀ b ∈ bs, b < p.bins.length) → May s o k n →
    Held p s (takeGo o k but bs s n).1 o k (n - (takeGo o k but bs s n).2) ∧ 0 ≤ (takeGo o k but bs s n).2 ∧ (takeGo o k but bs s n).2 ≤ n
  | [], s, n, h, _, hm => by
    have := hm.n0
    exact ⟨(Held.refl h).cast (by show (0 : Int) = n - n; omega), this, Int.le_refl _⟩
  | b :: r, s, n, h, hb, hm => by
    by_cases hq : (b : Int) = but ∨ min n (avail s b (s.line o k).good) < 1
    · rw [takeGo_skip hq]
      exact takeGo_held h (fun x hx => hb x (List.mem_cons_of_mem _ hx)) hm
    · rw [takeGo_one (by omega) (by omega)]
      have f := hm.fits (p := p) (b := b) (m := min n (avail s b (s.line o k).good)) (hb b (List.mem_cons_self ..)) (by omega) (by omega) (by omega)
      have h1 := Held.one h f
      obtain ⟨h2, h3, h4⟩ := takeGo_held h1.right (fun x hx => hb x (List.mem_cons_of_mem _ hx)) (hm.held h1 (by omega))
      exact ⟨(h1.trans h2).cast (by omega), h3, by omega⟩
theorem takeGo_other : ∀ {bs : List Nat} {s : State} {n : Int}, Right p s → (∀ b ∈ bs, b < p.bins.length) → May s o k n → ∀ (b : Nat), (b ∉ bs ∨ (b : Int) = but) → ∀ g : Int,
    bound (takeGo o k but bs s n).1 b g = bound s b g
  | [], s, n, h, _, hm => fun _ _ _ => rfl
  | c :: r, s, n, h, hb, hm => fun b hnot g => by
    have hnot' : b ∉ r ∨ (b : Int) = but := hnot.imp (fun h1 h2 => h1 (List.mem_cons_of_mem _ h2)) id
    by_cases hq : (c : Int) = but ∨ min n (avail s c (s.line o k).good) < 1
    · rw [takeGo_skip hq]
      exact takeGo_other h (fun x hx => hb x (List.mem_cons_of_mem _ hx)) hm b hnot' g
    · rw [takeGo_one (by omega) (by omega)]
      have f := hm.fits (p := p) (b := c) (m := min n (avail s c (s.line o k).good)) (hb c (List.mem_cons_self ..)) (by omega) (by omega) (by omega)
      have h1 := Held.one h f
      rw [takeGo_other h1.right (fun x hx => hb x (List.mem_cons_of_mem _ hx)) (hm.held h1 (by omega)) b hnot' g, hold1_bound h f, if_neg, Int.add_zero]
      rintro ⟨e, _⟩
      have : c = b := by omega
      subst this
      rcases hnot with h2 | h2
      · exact h2 (List.mem_cons_self ..)
      · omega
/-- If some could not be held, nothing is left. -/
theorem takeGo_left : ∀ {bs : List Nat} {s : State} {n : Int}, bs.Nodup → Right p s → (∀ b ∈ bs, b < p.bins.length) → May s o k n → 0 < (takeGo o k but bs s n).2 → ∀ b ∈ bs, (b : Int) ≠ but → avail (takeGo o k but bs s n).1 b (s.line o k).good = 0
  | [], s, n, _, h, _, hm => fun _ b hb => by simp at hb
  | c :: r, s, n, hnd, h, hb, hm => fun hpos b hbm hne => by
    have hnd' := List.nodup_cons.1 hnd
    have hav := hm.avail h (hb c (List.mem_cons_self ..))
    by_cases hq : (c : Int) = but ∨ min n (avail s c (s.line o k).good) < 1
    · rw [takeGo_skip hq] at hpos ⊢
      have hle := (takeGo_held (but := but) h (fun x hx => hb x (List.mem_cons_of_mem _ hx)) hm).2.2
      rcases List.mem_cons.1 hbm with rfl | hbm
      · have hoth := takeGo_other (but := but) h (fun x hx => hb x (List.mem_cons_of_mem _ hx)) hm b (.inl hnd'.1) (s.line o k).good
        have hon := (takeGo_held (but := but) h (fun x hx => hb x (List.mem_cons_of_mem _ hx)) hm).1.on
        unfold avail at hq hav ⊢
        rw [hoth, hon]
        omega
      · exact takeGo_left hnd'.2 h (fun x hx => hb x (List.mem_cons_of_mem _ hx)) hm hpos b hbm hne
    · rw [takeGo_one (by omega) (by omega)] at hpos ⊢
      have f := hm.fits (p := p) (b := c) (m := min n (avail s c (s.line o k).good)) (hb c (List.mem_cons_self ..)) (by omega) (by omega) (by omega)
      have h1 := Held.one h f
      have hm1 := hm.held h1 (by omega)
      have hle := (takeGo_held (but := but) h1.right (fun x hx => hb x (List.mem_cons_of_mem _ hx)) hm1).2.2
      rcases List.mem_cons.1 hbm with rfl | hbm
      · have hoth := takeGo_other (but := but) h1.right (fun x hx => hb x (List.mem_cons_of_mem _ hx)) hm1 b (.inl hnd'.1) (s.line o k).good
        have hon := (takeGo_held (but := but) h1.right (fun x hx => hb x (List.mem_cons_of_mem _ hx)) hm1).1.on
        have ha1 := hold1_avail h f b (s.line o k).good
        rw [if_pos ⟨rfl, rfl⟩] at ha1
        have e : avail (takeGo o k but r (hold1 s o k b (min n (avail s b (s.line o k).good))) (n - min n (avail s b (s.line o k).good))).1 b (s.line o k).good = avail (hold1 s o k b (min n (avail s b (s.line o k).good))) b (s.line o k).good := by
          unfold avail at hoth hon ⊢
          rw [hoth, hon]
        rw [e, ha1]
        omega
      · have := takeGo_left hnd'.2 h1.right (fun x hx => hb x (List.mem_cons_of_mem _ hx)) hm1 hpos b hbm hne
        rwa [(h1.line o k).1] at this

theorem hold1_hold1 {s : State} {b : Nat} {m m' : Int} (h : Right p s) (f : Fits p s o k b m) (f' : Fits p (hold1 s o k b m) o k b m') (f2 : Fits p s o k b (m + m')) : hold1 (hold1 s o k b m) o k b m' = hold1 s o k b (m + m') := by
  have h1 := hold1_right h f
  refine State.ext' rfl ?_ ?_ rfl rfl rfl rfl
  · have e1 : (hold1 s o k b m).line o k = { s.line o k with back := (s.line o k).back - m } := by rw [hold1_line f, if_pos ⟨rfl, rfl⟩]
    have e2 : (hold1 s o k b m).order o = { s.order o with lines := (s.order o).lines.set k { s.line o k with back := (s.line o k).back - m } } := by
      have := order_setLine (s := { s with holds := withHold s.holds ⟨o, k, b, keptAt s.holds o k b + m⟩ }) f.ho k { s.line o k with back := (s.line o k).back - m } o
      rw [if_pos rfl] at this
      exact this
    have e3 : (hold1 s o k b m).orders = s.orders.set o { s.order o with lines := (s.order o).lines.set k { s.line o k with back := (s.line o k).back - m } } := rfl
    show (hold1 s o k b m).orders.set o { (hold1 s o k b m).order o with lines := ((hold1 s o k b m).order o).lines.set k { (hold1 s o k b m).line o k with back := ((hold1 s o k b m).line o k).back - m' } } = s.orders.set o { s.order o with lines := (s.order o).lines.set k { s.line o k with back := (s.line o k).back - (m + m') } }
    rw [e1, e2, e3, List.set_set, List.set_set]
    simp only
    rw [Int.sub_sub]
  · refine holds_ext (hold1_holdsOk h1 f') (hold1_holdsOk h f2) fun o' k' b' => ?_
    rw [hold1_keptAt h1 f', hold1_keptAt h f, hold1_keptAt h f2]
    split <;> omega
/-- Taken in two parts it is the same. -/
theorem takeGo_split : ∀ {bs : List Nat} {s : State} {n m : Int}, bs.Nodup → Right p s → (∀ b ∈ bs, b < p.bins.length) → May s o k (n + m) → 0 ≤ n → 0 ≤ m →
    takeGo o k but bs (takeGo o k but bs s n).1 m = ((takeGo o k but bs s (n + m)).1, (takeGo o k but bs s (n + m)).2 - (takeGo o k but bs s n).2)
  | [], s, n, m, _, h, _, hm, hn, hm0 => by
    show (s, m) = (s, n + m - n)
    rw [show n + m - n = m by omega]
  | b :: r, s, n, m, hnd, h, hb, hm, hn, hm0 => by
    have hnd' := List.nodup_cons.1 hnd
    have hb0 := hb b (List.mem_cons_self ..)
    have hbr : ∀ x ∈ r, x < p.bins.length := fun x hx => hb x (List.mem_cons_of_mem _ hx)
    have hav := hm.avail h hb0
    have hmn : May s o k n := ⟨hm.ho, hm.hk, hm.kind, hn, by have := hm.back; omega⟩
    by_cases hbut : (b : Int) = but
    · rw [takeGo_skip (.inl hbut), takeGo_skip (.inl hbut), takeGo_skip (.inl hbut)]
      exact takeGo_split hnd'.2 h hbr hm hn hm0
    · by_cases ha : avail s b (s.line o k).good < 1
      · -- nothing to be had there
        have ha2 : avail (takeGo o k but r s n).1 b ((takeGo o k but r s n).1.line o k).good < 1 := by
          have hh := (takeGo_held (but := but) h hbr hmn).1
          have := hh.avail_le b (s.line o k).good
          rw [(hh.line o k).1]
          omega
        rw [takeGo_skip (s := s) (n := n) (.inr (by omega)), takeGo_skip (s := s) (n := n + m) (.inr (by omega)), takeGo_skip (.inr (by omega))]
        exact takeGo_split hnd'.2 h hbr hm hn hm0
      · by_cases hle : n ≤ avail s b (s.line o k).good
        · -- the first part is had here
          by_cases hn0 : n < 1
          · rw [takeGo_zero (n := n) hn0]
            have : n = 0 := by omega
            subst this
            rw [Int.zero_add]
            simp
          · have f1 := hmn.fits (p := p) (b := b) (m := n) hb0 (by omega) (by omega) hle
            have e1 : takeGo o k but (b :: r) s n = (hold1 s o k b n, 0) := by
              rw [takeGo_one hbut (by omega), show min n (avail s b (s.line o k).good) = n by omega, takeGo_zero (by omega), show n - n = 0 by omega]
            rw [e1]
            have h1 := Held.one h f1
            have hg := (h1.line o k).1
            have ha1 : avail (hold1 s o k b n) b (s.line o k).good = avail s b (s.line o k).good - n := by
              rw [hold1_avail h f1, if_pos ⟨rfl, rfl⟩]
            by_cases hmz : min m (avail s b (s.line o k).good - n) < 1
            · by_cases hm00 : m < 1
              · have : m = 0 := by omega
                subst this
                rw [takeGo_zero (by omega), Int.add_zero, e1]
                simp
              · have hex : avail s b (s.line o k).good = n := by omega
                have e2 : takeGo o k but (b :: r) s (n + m) = takeGo o k but r (hold1 s o k b n) m := by
                  rw [takeGo_one hbut (by omega), show min (n + m) (avail s b (s.line o k).good) = n by omega, show n + m - n = m by omega]
                rw [takeGo_skip (.inr (by rw [hg, ha1]; omega)), e2, Int.sub_zero]
            · have e2 : takeGo o k but (b :: r) s (n + m) = takeGo o k but r (hold1 s o k b (n + min m (avail s b (s.line o k).good - n))) (m - min m (avail s b (s.line o k).good - n)) := by
                rw [takeGo_one hbut (by omega), show min (n + m) (avail s b (s.line o k).good) = n + min m (avail s b (s.line o k).good - n) by omega,
                  show n + m - (n + min m (avail s b (s.line o k).good - n)) = m - min m (avail s b (s.line o k).good - n) by omega]
              have hm1 : May (hold1 s o k b n) o k m := by
                have := hm.held h1 (by omega)
                rwa [show n + m - n = m by omega] at this
              have f2 : Fits p (hold1 s o k b n) o k b (min m (avail s b (s.line o k).good - n)) := hm1.fits hb0 (by omega) (by omega) (by rw [hg, ha1]; omega)
              have f3 : Fits p s o k b (n + min m (avail s b (s.line o k).good - n)) := hm.fits hb0 (by omega) (by omega) (by omega)
              have e3 : min m (avail (hold1 s o k b n) b ((hold1 s o k b n).line o k).good) = min m (avail s b (s.line o k).good - n) := by rw [hg, ha1]
              rw [takeGo_one hbut (by rw [e3]; omega), e2, e3, hold1_hold1 h f1 f2 f3, Int.sub_zero]
        · -- all that is there is had by the first part
          have f1 := hmn.fits (p := p) (b := b) (m := avail s b (s.line o k).good) hb0 (by omega) (by omega) (by omega)
          have h1 := Held.one h f1
          have e1 : takeGo o k but (b :: r) s n = takeGo o k but r (hold1 s o k b (avail s b (s.line o k).good)) (n - avail s b (s.line o k).good) := by
            rw [takeGo_one hbut (by omega), show min n (avail s b (s.line o k).good) = avail s b (s.line o k).good by omega]
          have e2 : takeGo o k but (b :: r) s (n + m) = takeGo o k but r (hold1 s o k b (avail s b (s.line o k).good)) (n - avail s b (s.line o k).good + m) := by
            rw [takeGo_one hbut (by omega), show min (n + m) (avail s b (s.line o k).good) = avail s b (s.line o k).good by omega, show n + m - avail s b (s.line o k).good = n - avail s b (s.line o k).good + m by omega]
          have hm1 : May (hold1 s o k b (avail s b (s.line o k).good)) o k (n - avail s b (s.line o k).good + m) := by
            have := hm.held h1 (by omega)
            rwa [show n + m - avail s b (s.line o k).good = n - avail s b (s.line o k).good + m by omega] at this
          have hm2 : May (hold1 s o k b (avail s b (s.line o k).good)) o k (n - avail s b (s.line o k).good) := hmn.held h1 (by omega)
          have hh := (takeGo_held (but := but) h1.right hbr hm2).1
          have ha2 : avail (takeGo o k but r (hold1 s o k b (avail s b (s.line o k).good)) (n - avail s b (s.line o k).good)).1 b ((takeGo o k but r (hold1 s o k b (avail s b (s.line o k).good)) (n - avail s b (s.line o k).good)).1.line o k).good < 1 := by
            have h2 := hh.avail_le b (s.line o k).good
            have h3 := hold1_avail h f1 b (s.line o k).good
            rw [if_pos ⟨rfl, rfl⟩] at h3
            rw [(hh.line o k).1, (h1.line o k).1]
            omega
          rw [e1, e2, takeGo_skip (.inr (by omega))]
          exact takeGo_split hnd'.2 h1.right hbr hm1 (by omega) hm0
end

theorem way_nodup (p : Plan) : (way p).Nodup := (way_pairwise p).imp fun h => h.1
theorem way_bins (p : Plan) : ∀ b ∈ way p, b < p.bins.length := fun _ h => mem_way.1 h
theorem takeS_held {p : Plan} {s : State} {o k : Nat} {n but : Int} (h : Right p s) (hm : May s o k n) :
    Held p s (takeS p s o k n but).1 o k (n - (takeS p s o k n but).2) ∧ 0 ≤ (takeS p s o k n but).2 ∧ (takeS p s o k n but).2 ≤ n := takeGo_held h (way_bins p) hm
theorem takeS_left {p : Plan} {s : State} {o k : Nat} {n but : Int} (h : Right p s) (hm : May s o k n) (hl : 0 < (takeS p s o k n but).2) {b : Nat} (hb : b < p.bins.length) (hne : (b : Int) ≠ but) : avail (takeS p s o k n but).1 b (s.line o k).good = 0 :=
  takeGo_left (way_nodup p) h (way_bins p) hm hl b (mem_way.2 hb) hne
theorem takeS_but {p : Plan} {s : State} {o k b : Nat} {n : Int} (h : Right p s) (hm : May s o k n) (g : Int) : bound (takeS p s o k n b).1 b g = bound s b g := takeGo_other h (way_bins p) hm b (.inr rfl) g
theorem takeS_split {p : Plan} {s : State} {o k : Nat} {n m but : Int} (h : Right p s) (hm : May s o k (n + m)) (hn : 0 ≤ n) (hm0 : 0 ≤ m) :
    takeS p (takeS p s o k n but).1 o k m but = ((takeS p s o k (n + m) but).1, (takeS p s o k (n + m) but).2 - (takeS p s o k n but).2) := takeGo_split (way_nodup p) h (way_bins p) hm hn hm0
theorem kinds_disjoint {p : Plan} {b : Nat} (h : b ∈ kinds p true) : b ∉ kinds p false := fun h' => by
  have h1 := (mem_kinds.1 h).2
  have h2 := (mem_kinds.1 h').2
  rw [h1] at h2
  cases h2
theorem kinds_nodup (p : Plan) (f : Bool) : (kinds p f).Nodup := (kinds_pairwise p f).imp fun h => Nat.ne_of_lt h
/-- While some is to be had in front nothing is held elsewhere. -/
theorem takeS_front {p : Plan} {s : State} {o k : Nat} {n : Int} (h : Right p s) (hm : May s o k n) :
    (∀ b, b < p.bins.length → (p.bin b).front = true → avail (takeS p s o k n (-1)).1 b (s.line o k).good = 0) ∨ (∀ b, b < p.bins.length → (p.bin b).front = false → avail (takeS p s o k n (-1)).1 b (s.line o k).good = avail s b (s.line o k).good) := by
  have hbT : ∀ b ∈ kinds p true, b < p.bins.length := fun b hb => (mem_kinds.1 hb).1
  have hbF : ∀ b ∈ kinds p false, b < p.bins.length := fun b hb => (mem_kinds.1 hb).1
  have e : takeS p s o k n (-1) = takeGo o k (-1) (kinds p false) (takeGo o k (-1) (kinds p true) s n).1 (takeGo o k (-1) (kinds p true) s n).2 := takeGo_append
  obtain ⟨h1, h2, h3⟩ := takeGo_held (but := -1) h hbT hm
  have hm1 : May (takeGo o k (-1) (kinds p true) s n).1 o k (takeGo o k (-1) (kinds p true) s n).2 := by
    have := hm.held h1 (by omega)
    rwa [show n - (n - (takeGo o k (-1) (kinds p true) s n).2) = (takeGo o k (-1) (kinds p true) s n).2 by omega] at this
  rw [e]
  by_cases hz : 0 < (takeGo o k (-1) (kinds p true) s n).2
  · left
    intro b hb hf
    have hb1 : b ∈ kinds p true := mem_kinds.2 ⟨hb, hf⟩
    have a1 := takeGo_left (kinds_nodup p true) h hbT hm hz b hb1 (by omega)
    have a2 := takeGo_other (but := -1) h1.right hbF hm1 b (.inl (kinds_disjoint hb1)) (s.line o k).good
    have a3 := (takeGo_held (but := -1) h1.right hbF hm1).1.on
    unfold avail at a1 ⊢
    rw [a2, a3]
    exact a1
  · right
    intro b hb hf
    rw [takeGo_zero (by omega)]
    have hb1 : b ∉ kinds p true := fun hh => by rw [(mem_kinds.1 hh).2] at hf; cases hf
    have a2 := takeGo_other (but := -1) h hbT hm b (.inl hb1) (s.line o k).good
    unfold avail
    rw [a2, h1.on]
end Wh
