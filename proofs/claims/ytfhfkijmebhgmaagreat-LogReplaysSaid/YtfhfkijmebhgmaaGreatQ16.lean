/- Texts of the claim, joined: PlainL, PlainO. -/
import Derived.Test.YtfhfkijmebhgmaaGreatQ14
import Derived.Test.YtfhfkijmebhgmaaGreatQ10
import Derived.Test.YtfhfkijmebhgmaaGreatQ15
namespace Wh

/-- What is picked, ahead of the line. -/
def preS (s : State) (o k b : Nat) (n : Int) : State :=
  { s with on := setCell s.on b (s.line o k).good.toNat (cell s.on b (s.line o k).good.toNat - n), out := s.out.set (s.line o k).good.toNat (intAt s.out (s.line o k).good.toNat + n), holds := withHold s.holds ⟨o, k, b, 0⟩ }
theorem picked_eq (s : State) (o k b : Nat) (held n : Int) : picked s o k b held n = (preS s o k b n).setLine o k { s.line o k with got := (s.line o k).got + n, back := (s.line o k).back + held - n } := rfl

/-- What may be picked. -/
structure Picks (p : Plan) (s : State) (o k b : Nat) (n : Int) : Prop where
  ho : o < s.orders.length
  hk : k < (s.order o).lines.length
  hb : b < p.bins.length
  held : 1 ≤ keptAt s.holds o k b
  n0 : 0 ≤ n
  n1 : n ≤ keptAt s.holds o k b
  out : intAt s.out (s.line o k).good.toNat + n ≤ 1048576

section
variable {p : Plan} {s : State} {o k b : Nat} {n : Int}
theorem keptAt_kept {l : List Hold} (hl : holdsOk l = true) (o ln : Int) (b : Nat) : keptAt l o ln b ≤ kept l o ln := by
  by_cases hb : b < 6
  · rw [kept_bins hl]
    have h0 : ∀ i, i < 6 → 0 ≤ keptAt l o ln i := fun i _ => kept_pos hl _ _ _
    have : ∀ m, b < m → m ≤ 6 → keptAt l o ln b ≤ sumTo (fun i => keptAt l o ln i) m := by
      intro m
      induction m with
      | zero => intro h; omega
      | succ m ih =>
        intro h h6
        have hs : ∀ q, q ≤ 6 → 0 ≤ sumTo (fun i => keptAt l o ln i) q := by
          intro q
          induction q with
          | zero => intro _; exact Int.le_refl _
          | succ q ih => intro hq; have := ih (by omega); have := h0 q (by omega); show 0 ≤ sumTo (fun i => keptAt l o ln i) q + keptAt l o ln q; omega
        show _ ≤ sumTo _ m + keptAt l o ln m
        by_cases e : b = m
        · subst e
          have := hs b (by omega)
          omega
        · have := ih (by omega) (by omega)
          have := h0 m (by omega)
          omega
    exact this 6 hb (by omega)
  · have h1 := kept_range hl o ln
    by_cases h0 : keptAt l o ln b = 0
    · rw [h0]; exact h1.1
    · have := (keptAt_key (holdsOk_iff.1 hl).1 (holdsOk_iff.1 hl).2 h0).1
      unfold keyOk at this
      omega
theorem picks_good (h : Right p s) (f : Picks p s o k b n) : ((s.line o k).good.toNat : Int) = (s.line o k).good ∧ (s.line o k).good.toNat < p.sizes.length := by
  have := (h.sane.line f.ho f.hk).1
  omega
theorem picks_kind (h : Right p s) (f : Picks p s o k b n) : (s.order o).kind = 1 := by
  have h1 := h.lineSum f.ho f.hk
  have h2 := h.sane.kind f.ho
  have h3 := keptAt_kept h.sane.holds o k b
  have h4 := f.held
  have h5 := h.sane.line f.ho f.hk
  have h6 : (s.order o).kind ≠ 0 := fun e => by rw [if_pos e] at h1; omega
  have h7 : (s.order o).kind ≠ 2 := fun e => h1.2 ⟨e, by omega⟩
  omega
theorem picks_cell (h : Right p s) (f : Picks p s o k b n) : keptAt s.holds o k b ≤ bound s b (s.line o k).good ∧ bound s b (s.line o k).good ≤ cell s.on b (s.line o k).good.toNat ∧ cell s.on b (s.line o k).good.toNat ≤ 200 := by
  obtain ⟨e, hg⟩ := picks_good h f
  have h1 := keptAt_held h.sane o k b
  have h2 := goingOf_nonneg h.sane b (s.line o k).good
  have h3 := h.bnd f.hb hg
  rw [e] at h3
  have h4 := h.sane.cell f.hb hg
  simp only [Int.toNat_natCast] at h1
  exact ⟨by unfold bound; omega, h3, h4.2⟩
theorem picked_line (f : Picks p s o k b n) (held : Int) (o' k' : Nat) : (picked s o k b held n).line o' k' = if o' = o ∧ k' = k then { s.line o k with got := (s.line o k).got + n, back := (s.line o k).back + held - n } else s.line o' k' :=
  line_setLine (s := preS s o k b n) f.ho f.hk _ o' k'
theorem picked_kind (f : Picks p s o k b n) (held : Int) (o' : Nat) : ((picked s o k b held n).order o').kind = (s.order o').kind := kind_setLine (s := preS s o k b n) f.ho _ _ _
theorem picked_lines (f : Picks p s o k b n) (held : Int) (o' : Nat) : ((picked s o k b held n).order o').lines.length = (s.order o').lines.length := lines_setLine (s := preS s o k b n) f.ho _ _ _
theorem picked_orders (held : Int) : (picked s o k b held n).orders.length = s.orders.length := orders_setLine _ _ _ _
theorem picked_fixed (f : Picks p s o k b n) (held : Int) (o' k' : Nat) : ((picked s o k b held n).line o' k').good = (s.line o' k').good ∧ ((picked s o k b held n).line o' k').want = (s.line o' k').want := by
  rw [picked_line f]
  split
  · rename_i hq
    obtain ⟨rfl, rfl⟩ := hq
    exact ⟨rfl, rfl⟩
  · exact ⟨rfl, rfl⟩
theorem picked_holdsOk (h : Right p s) (f : Picks p s o k b n) (held : Int) : holdsOk (picked s o k b held n).holds = true :=
  with_ok (h := ⟨o, k, b, 0⟩) h.sane.holds (key_of h.sane f.ho f.hk f.hb) ⟨Int.le_refl _, by show (0 : Int) ≤ 200; omega⟩
theorem picked_keptAt (h : Right p s) (f : Picks p s o k b n) (held : Int) (o' k' b' : Int) : keptAt (picked s o k b held n).holds o' k' b' = if (o : Int) = o' ∧ (k : Int) = k' ∧ (b : Int) = b' then 0 else keptAt s.holds o' k' b' := by
  have e := keptAt_with (h := ⟨o, k, b, 0⟩) h.sane.holds (key_of h.sane f.ho f.hk f.hb) ⟨Int.le_refl _, by show (0 : Int) ≤ 200; omega⟩ o' k' b'
  exact e
theorem picked_kept (h : Right p s) (f : Picks p s o k b n) (held : Int) (o' k' : Int) : kept (picked s o k b held n).holds o' k' = kept s.holds o' k' - if (o : Int) = o' ∧ (k : Int) = k' then keptAt s.holds o k b else 0 := by
  have e := kept_with (h := ⟨o, k, b, 0⟩) h.sane.holds (key_of h.sane f.ho f.hk f.hb) ⟨Int.le_refl _, by show (0 : Int) ≤ 200; omega⟩ o' k'
  refine e.trans ?_
  simp only
  split <;> omega
theorem picked_bound (h : Right p s) (f : Picks p s o k b n) (held : Int) (b' g : Int) : bound (picked s o k b held n) b' g = bound s b' g - if (b : Int) = b' ∧ (s.line o k).good = g then keptAt s.holds o k b else 0 := by
  have e1 : heldIn (picked s o k b held n) b' g = heldIn { s with holds := withHold s.holds ⟨o, k, b, 0⟩ } b' g :=
    heldIn_congr (s := { s with holds := withHold s.holds ⟨o, k, b, 0⟩ }) (t := picked s o k b held n) rfl (fun o' k' => (picked_fixed f held o' k').1) b' g
  have e2 := heldIn_with (s := s) (h := ⟨o, k, b, 0⟩) h.sane.holds (key_of h.sane f.ho f.hk f.hb) b' g
  unfold bound
  rw [e1, e2]
  simp only [Int.toNat_natCast]
  have : goingOf (picked s o k b held n).moves b' g = goingOf s.moves b' g := rfl
  rw [this]
  split <;> omega
theorem picked_right (h : Right p s) (f : Picks p s o k b n) : Right p (picked s o k b (keptAt s.holds o k b) n) := by
  obtain ⟨e, hg⟩ := picks_good h f
  obtain ⟨c1, c2, c3⟩ := picks_cell h f
  have hkd := picks_kind h f
  have hn0 := f.n0
  have hn1 := f.n1
  have hout := f.out
  have hs := h.sane
  have hbl : b < s.on.length := by rw [hs.onLen]; exact f.hb
  have hgl : (s.line o k).good.toNat < (rowAt s.on b).length := by rw [hs.rowLen f.hb]; exact hg
  have hol : (s.line o k).good.toNat < s.out.length := by rw [hs.out.1]; exact hg
  have hls := h.lineSum f.ho f.hk
  have hln := hs.line f.ho f.hk
  have hkk := keptAt_kept hs.holds o k b
  rw [if_neg (by omega)] at hls
  refine Right.of (Sane.of ?_ (by rw [picked_orders]; exact hs.orders4) hs.moves8 (fun o' ho' => ?_) (fun o' k' ho' hk' => ?_) (picked_holdsOk h f _) (fun x hx => ?_) (fun x hx => List.all_eq_true.1 (formed_iff.1 hs.form).2.2.2.1 x hx)
    (formed_iff.1 hs.form).2.2.2.2.1 (sumsOk_set (formed_iff.1 hs.form).2.2.2.2.2.1 hol (by have := (hs.out.2 hg).1; omega) hout) (formed_iff.1 hs.form).2.2.2.2.2.2) (fun g hg' => ?_) (fun b' g hb' hg' => ?_) (fun o' k' ho' hk' => ?_)
  · exact checkShelf_zero.2 ⟨hs.plan, setCell_ok (checkShelf_zero.1 hs.shelf).2 (by omega) f.hb hg⟩
  · rw [picked_orders] at ho'
    rw [picked_lines f, picked_kind f]
    exact ⟨hs.lines3 ho', hs.kind ho'⟩
  · rw [picked_orders] at ho'
    rw [picked_lines f] at hk'
    have hl := hs.line ho' hk'
    rw [picked_line f, lineOk_iff]
    split
    · rename_i hq
      obtain ⟨rfl, rfl⟩ := hq
      simp only
      omega
    · exact hl
  · have hin : holdIn p s x = true := by
      rcases with_mem.1 hx with ⟨h1, _⟩ | ⟨_, h1⟩
      · exact List.all_eq_true.1 (formed_iff.1 hs.form).2.2.1 x h1
      · exact absurd rfl h1
    have := holdIn_iff.1 hin
    exact holdIn_iff.2 ⟨by rw [picked_orders]; exact this.1, by rw [picked_lines f]; exact this.2.1, this.2.2⟩
  · have h1 := h.sum hg'
    have e1 : sumOf (picked s o k b (keptAt s.holds o k b) n).on g = _ := sumOf_setCell (n := cell s.on b (s.line o k).good.toNat - n) hbl hgl g
    have e2 : intAt (picked s o k b (keptAt s.holds o k b) n).out g = if g = (s.line o k).good.toNat then intAt s.out (s.line o k).good.toNat + n else intAt s.out g := intAt_set hol
    have e3 : intAt (picked s o k b (keptAt s.holds o k b) n).inn g = intAt s.inn g := rfl
    have e4 : intAt (picked s o k b (keptAt s.holds o k b) n).fixed g = intAt s.fixed g := rfl
    rw [e1, e2, e3, e4]
    split
    · rename_i hq
      subst hq
      omega
    · omega
  · have h1 := h.bnd hb' hg'
    rw [picked_bound h f]
    have e1 : cell (picked s o k b (keptAt s.holds o k b) n).on b' g = if b' = b ∧ g = (s.line o k).good.toNat then cell s.on b (s.line o k).good.toNat - n else cell s.on b' g := cell_setCell hbl hgl
    rw [e1]
    by_cases hq : b' = b ∧ g = (s.line o k).good.toNat
    · rw [if_pos hq, if_pos ⟨by omega, by omega⟩]
      obtain ⟨rfl, rfl⟩ := hq
      rw [e]
      omega
    · rw [if_neg hq, if_neg (by omega)]
      omega
  · rw [picked_orders] at ho'
    rw [picked_lines f] at hk'
    obtain ⟨l1, l2⟩ := h.lineSum ho' hk'
    obtain ⟨g1, g2⟩ := picked_fixed f (keptAt s.holds o k b) o' k'
    refine lineSummed_iff.2 ?_
    rw [g2, picked_kept h f, picked_kind f, picked_line f]
    by_cases hq : o' = o ∧ k' = k
    · obtain ⟨rfl, rfl⟩ := hq
      rw [if_pos ⟨rfl, rfl⟩, if_pos ⟨rfl, rfl⟩, if_neg (by omega)]
      simp only
      exact ⟨by omega, by omega⟩
    · rw [if_neg hq, if_neg (by omega), Int.sub_zero]
      exact ⟨l1, l2⟩
theorem picked_may (h : Right p s) (f : Picks p s o k b n) : May (picked s o k b (keptAt s.holds o k b) n) o k (keptAt s.holds o k b - n) := by
  have hln := (h.sane.line f.ho f.hk).2.2.2.1
  refine ⟨by rw [picked_orders]; exact f.ho, by rw [picked_lines f]; exact f.hk, by rw [picked_kind f]; exact picks_kind h f, by have := f.n1; omega, ?_⟩
  rw [picked_line f, if_pos ⟨rfl, rfl⟩]
  simp only
  omega
/-- The state behind the pick, ahead of its closing. -/
def pickT (p : Plan) (s : State) (o k b : Nat) (n : Int) : State := (takeS p (picked s o k b (keptAt s.holds o k b) n) o k (keptAt s.holds o k b - n) b).1
theorem pickS_eq : pickS p s o k b n = close (pickT p s o k b n) o := rfl
theorem pickT_held (h : Right p s) (f : Picks p s o k b n) :
    Held p (picked s o k b (keptAt s.holds o k b) n) (pickT p s o k b n) o k (keptAt s.holds o k b - n - (takeS p (picked s o k b (keptAt s.holds o k b) n) o k (keptAt s.holds o k b - n) b).2) ∧ 0 ≤ (takeS p (picked s o k b (keptAt s.holds o k b) n) o k (keptAt s.holds o k b - n) b).2 ∧
    (takeS p (picked s o k b (keptAt s.holds o k b) n) o k (keptAt s.holds o k b - n) b).2 ≤ keptAt s.holds o k b - n := takeS_held (picked_right h f) (picked_may h f)
/-- Nothing is held in that bin. -/
theorem takeGo_but {o k b : Nat} : ∀ {bs : List Nat} {s : State} {n : Int}, Right p s → (∀ x ∈ bs, x < p.bins.length) → May s o k n → keptAt (takeGo o k (b : Int) bs s n).1.holds o k b = keptAt s.holds o k b
  | [], _, _, _, _, _ => rfl
  | c :: r, s, n, h, hb, hm => by
    by_cases hq : (c : Int) = b ∨ min n (avail s c (s.line o k).good) < 1
    · rw [takeGo_skip hq]
      exact takeGo_but h (fun x hx => hb x (List.mem_cons_of_mem _ hx)) hm
    · rw [takeGo_one (by omega) (by omega)]
      have f := hm.fits (p := p) (b := c) (m := min n (avail s c (s.line o k).good)) (hb c (List.mem_cons_self ..)) (by omega) (by omega) (by omega)
      have h1 := Held.one h f
      rw [takeGo_but h1.right (fun x hx => hb x (List.mem_cons_of_mem _ hx)) (hm.held h1 (by omega)), hold1_keptAt h f, if_neg (by omega), Int.add_zero]

-- closing
theorem close_order (t : State) (o : Nat) (ho : o < t.orders.length) (o' : Nat) : (close t o).order o' = if o' = o ∧ allGot (t.order o) = true then { t.order o with kind := 2 } else t.order o' := by
  unfold close
  by_cases ha : allGot (t.order o) = true
  · rw [if_pos ha]
    have : State.order { t with orders := t.orders.set o { t.order o with kind := 2 } } o' = if o' = o then { t.order o with kind := 2 } else t.order o' := orderAt_set ho _ _
    rw [this]
    by_cases e : o' = o
    · rw [if_pos e, if_pos ⟨e, ha⟩]
    · rw [if_neg e, if_neg (fun h => e h.1)]
  · rw [if_neg ha, if_neg (fun h => ha h.2)]
theorem close_lines (t : State) (o : Nat) (ho : o < t.orders.length) (o' : Nat) : ((close t o).order o').lines = (t.order o').lines := by
  rw [close_order t o ho]
  split
  · rename_i h; rw [h.1]
  · rfl
theorem close_line (t : State) (o : Nat) (ho : o < t.orders.length) (o' k' : Nat) : (close t o).line o' k' = t.line o' k' := by
  unfold State.line
  rw [close_lines t o ho]
theorem close_len (t : State) (o : Nat) : (close t o).orders.length = t.orders.length := by
  unfold close
  split <;> simp
theorem close_rest (t : State) (o : Nat) : (close t o).on = t.on ∧ (close t o).holds = t.holds ∧ (close t o).moves = t.moves ∧ (close t o).inn = t.inn ∧ (close t o).out = t.out ∧ (close t o).fixed = t.fixed := by
  unfold close
  split <;> exact ⟨rfl, rfl, rfl, rfl, rfl, rfl⟩
theorem close_bound (t : State) (o : Nat) (ho : o < t.orders.length) (b g : Int) : bound (close t o) b g = bound t b g := by
  have e : heldIn (close t o) b g = heldIn t b g := heldIn_congr (close_rest t o).2.1 (fun o' k' => by rw [close_line t o ho]) b g
  unfold bound
  rw [e, (close_rest t o).2.2.1]
theorem close_check {t : State} {o : Nat} (h : Right p t) (ho : o < t.orders.length) (hkd : (t.order o).kind = 1) (hot : ∀ o', o' < t.orders.length → o' ≠ o → ¬ ((t.order o').kind = 1 ∧ allGot (t.order o') = true)) : checkState p (close t o) = 0 := by
  have hs := h.sane
  obtain ⟨r1, r2, r3, r4, r5, r6⟩ := close_rest t o
  have hord := close_order t o ho
  have hkind : ∀ o', ((close t o).order o').kind = if o' = o ∧ allGot (t.order o) = true then 2 else (t.order o').kind := fun o' => by
    rw [hord]
    split <;> rfl
  refine check_iff.2 ⟨Right.of (Sane.of (by rw [r1]; exact hs.shelf) (by rw [close_len]; exact hs.orders4) (by rw [r3]; exact hs.moves8) (fun o' ho' => ?_) (fun o' k' ho' hk' => ?_) (by rw [r2]; exact hs.holds) (fun x hx => ?_) (fun x hx => ?_)
    (by rw [r4]; exact (formed_iff.1 hs.form).2.2.2.2.1) (by rw [r5]; exact (formed_iff.1 hs.form).2.2.2.2.2.1) (by rw [r6]; exact (formed_iff.1 hs.form).2.2.2.2.2.2)) (fun g hg => ?_) (fun b g hb hg => ?_) (fun o' k' ho' hk' => ?_), fun o' ho' => ?_⟩
  · rw [close_len] at ho'
    rw [close_lines t o ho, hkind]
    refine ⟨hs.lines3 ho', ?_⟩
    have := hs.kind ho'
    split <;> omega
  · rw [close_len] at ho'
    rw [close_lines t o ho] at hk'
    rw [close_line t o ho]
    exact lineOk_iff.2 (hs.line ho' hk')
  · rw [r2] at hx
    have := holdIn_iff.1 (List.all_eq_true.1 (formed_iff.1 hs.form).2.2.1 x hx)
    exact holdIn_iff.2 ⟨by rw [close_len]; exact this.1, by rw [close_lines t o ho]; exact this.2.1, this.2.2⟩
  · rw [r3] at hx
    exact List.all_eq_true.1 (formed_iff.1 hs.form).2.2.2.1 x hx
  · rw [r1, r4, r5, r6]
    exact h.sum hg
  · rw [close_bound t o ho, r1]
    exact h.bnd hb hg
  · rw [close_len] at ho'
    rw [close_lines t o ho] at hk'
    have h1 := h.lineSum ho' hk'
    have h2 := hs.line ho' hk'
    have h3 := (kept_range hs.holds o' k').1
    refine lineSummed_iff.2 ?_
    rw [close_line t o ho, r2, hkind]
    by_cases hq : o' = o ∧ allGot (t.order o) = true
    · rw [if_pos hq]
      obtain ⟨rfl, ha⟩ := hq
      have h4 := allGot_iff.1 ha k' hk'
      change (t.line o' k').got = (t.line o' k').want at h4
      rw [if_neg (by omega)] at h1
      rw [if_neg (by omega)]
      omega
    · rw [if_neg hq]
      exact h1
  · rw [close_len] at ho'
    rw [hkind]
    by_cases hq : o' = o ∧ allGot (t.order o) = true
    · rw [if_pos hq]
      omega
    · rw [if_neg hq]
      have e : allGot ((close t o).order o') = allGot (t.order o') := by
        unfold allGot
        rw [close_lines t o ho]
      rw [e]
      by_cases ho2 : o' = o
      · subst ho2
        rintro ⟨_, ha⟩
        exact hq ⟨rfl, ha⟩
      · exact hot o' ho' ho2

/-- What is known of what was picked. -/
theorem pickS_true (hc : checkState p s = 0) (f : Picks p s o k b n) : checkState p (pickS p s o k b n) = 0 ∧ (pickS p s o k b n).orders.length = s.orders.length ∧ (∀ o', ((pickS p s o k b n).order o').lines.length = (s.order o').lines.length) ∧
    (∀ o' k' : Nat, ¬ (o' = o ∧ k' = k) → kept (pickS p s o k b n).holds o' k' = kept s.holds o' k' ∧ (pickS p s o k b n).line o' k' = s.line o' k') ∧ ((pickS p s o k b n).line o k).got = (s.line o k).got + n ∧
    (((pickS p s o k b n).order o).kind = 2 ↔ allGot ((pickS p s o k b n).order o) = true) := by
  obtain ⟨h, hgot⟩ := check_iff.1 hc
  obtain ⟨ht, _, _⟩ := pickT_held h f
  have hot : o < (pickT p s o k b n).orders.length := by rw [ht.orders, picked_orders]; exact f.ho
  have hkd : ((pickT p s o k b n).order o).kind = 1 := by rw [ht.kind, picked_kind f]; exact picks_kind h f
  have hline : ∀ o' k', ¬ (o' = o ∧ k' = k) → (pickT p s o k b n).line o' k' = s.line o' k' := fun o' k' hn => by
    have h1 := ht.line o' k'
    have h2 := ht.back o' k'
    rw [if_neg hn, Int.sub_zero] at h2
    rw [picked_line f, if_neg hn] at h1 h2
    obtain ⟨a1, a2, a3⟩ := h1
    cases hx : (pickT p s o k b n).line o' k'
    cases hy : s.line o' k'
    rw [hx, hy] at a1 a2 a3 h2
    simp only at a1 a2 a3 h2
    rw [a1, a2, a3, h2]
  rw [pickS_eq]
  refine ⟨close_check ht.right hot hkd (fun o' ho' hne => ?_), by rw [close_len, ht.orders, picked_orders], fun o' => by rw [close_lines _ o hot, ht.lines, picked_lines f], fun o' k' hn => ⟨?_, ?_⟩, ?_, ?_⟩
  · rw [ht.orders, picked_orders] at ho'
    rw [ht.kind, picked_kind f, ht.allGot]
    have e : allGot ((picked s o k b (keptAt s.holds o k b) n).order o') = allGot (s.order o') := by
      have : (picked s o k b (keptAt s.holds o k b) n).order o' = s.order o' := by
        have := order_setLine (s := preS s o k b n) f.ho k { s.line o k with got := (s.line o k).got + n, back := (s.line o k).back + keptAt s.holds o k b - n } o'
        rw [if_neg hne] at this
        exact this
      rw [this]
    rw [e]
    exact hgot o' ho'
  · rw [(close_rest _ o).2.1, ht.kept, if_neg (by omega), picked_kept h f, if_neg (by omega)]
    omega
  · rw [close_line _ o hot, hline o' k' hn]
  · rw [close_line _ o hot, (ht.line o k).2.2, picked_line f, if_pos ⟨rfl, rfl⟩]
  · have e : allGot ((close (pickT p s o k b n) o).order o) = allGot ((pickT p s o k b n).order o) := by
      unfold allGot
      rw [close_lines _ o hot]
    rw [e, close_order _ o hot]
    by_cases ha : allGot ((pickT p s o k b n).order o) = true
    · rw [if_pos ⟨rfl, ha⟩]
      simp [ha]
    · rw [if_neg (fun hh => ha hh.2)]
      simp only [ha]
      constructor
      · intro hh; omega
      · intro hh; cases hh
/-- What is not found is looked for elsewhere. -/
theorem pickS_short (hc : checkState p s = 0) (f : Picks p s o k b n) : keptAt (pickS p s o k b n).holds o k b = 0 ∧ ((pickS p s o k b n).line o k).got + ((pickS p s o k b n).line o k).back + kept (pickS p s o k b n).holds o k = ((pickS p s o k b n).line o k).want ∧
    ((pickS p s o k b n).line o k).good = (s.line o k).good ∧ ((s.line o k).back < ((pickS p s o k b n).line o k).back → ∀ b' : Nat, b' < p.bins.length → b' ≠ b → avail (pickS p s o k b n) b' (s.line o k).good = 0) := by
  obtain ⟨h, hgot⟩ := check_iff.1 hc
  obtain ⟨ht, ht1, ht2⟩ := pickT_held h f
  have hot : o < (pickT p s o k b n).orders.length := by rw [ht.orders, picked_orders]; exact f.ho
  have hcx := (pickS_true hc f).1
  have hx := right_of_check hcx
  have hlen := (pickS_true hc f).2.1
  have hlines := (pickS_true hc f).2.2.1
  have hls := (hx.lineSum (o := o) (k := k) (by rw [hlen]; exact f.ho) (by rw [hlines]; exact f.hk)).1
  have hkd : ((pickS p s o k b n).order o).kind ≠ 0 := by
    rw [pickS_eq, close_order _ o hot]
    split
    · simp only; omega
    · rw [ht.kind, picked_kind f, picks_kind h f]; omega
  rw [if_neg hkd] at hls
  refine ⟨?_, hls, ?_, fun hlt b' hb' hne => ?_⟩
  · rw [pickS_eq, (close_rest _ o).2.1]
    have := takeGo_but (b := b) (picked_right h f) (way_bins p) (picked_may h f)
    change keptAt (pickT p s o k b n).holds o k b = _ at this
    rw [this, picked_keptAt h f, if_pos ⟨rfl, rfl, rfl⟩]
  · rw [pickS_eq, close_line _ o hot, (ht.line o k).1, (picked_fixed f _ o k).1]
  · rw [pickS_eq, close_line _ o hot, ht.back, if_pos ⟨rfl, rfl⟩, picked_line f, if_pos ⟨rfl, rfl⟩] at hlt
    simp only at hlt
    have := takeS_left (but := b) (picked_right h f) (picked_may h f) (by omega) hb' (by omega)
    change avail (pickT p s o k b n) b' _ = 0 at this
    rw [(picked_fixed f _ o k).1] at this
    rw [pickS_eq]
    unfold avail at this ⊢
    rw [close_bound _ o hot, (close_rest _ o).1]
    exact this

theorem pick_right {o k b n : Int} (h : (pick p s o k b n).2 = 0) : checkState p s = 0 ∧ ∃ i j c : Nat, o = i ∧ k = j ∧ b = c ∧ Picks p s i j c n ∧ (pick p s o k b n).1 = pickS p s i j c n := by
  unfold pick at h ⊢
  by_cases h1 : checkState p s = 0
  · rw [if_neg (fun hn => hn h1)] at h ⊢
    by_cases h2 : keptAt s.holds o k b = 0
    · rw [if_pos h2] at h
      simp at h
    rw [if_neg h2] at h ⊢
    cases h3 : within n 0 (keptAt s.holds o k b)
    · rw [h3, if_pos (by rfl)] at h
      simp at h
    rw [h3, if_neg (by simp)] at h
    rw [if_neg (by simp)]
    have h3' := within_iff.1 h3
    by_cases h4 : 1048576 < intAt s.out (s.line o.toNat k.toNat).good.toNat + n
    · rw [if_pos h4] at h
      simp at h
    rw [if_neg h4]
    have hs := (right_of_check h1).sane
    obtain ⟨hk1, hm⟩ := keptAt_key (holdsOk_iff.1 hs.holds).1 (holdsOk_iff.1 hs.holds).2 h2
    have hin := holdIn_iff.1 (List.all_eq_true.1 (formed_iff.1 hs.form).2.2.1 _ hm)
    simp only at hin
    have hpos := kept_pos hs.holds o k b
    unfold keyOk at hk1
    obtain ⟨i, rfl⟩ : ∃ i : Nat, o = i := ⟨o.toNat, by omega⟩
    obtain ⟨j, rfl⟩ : ∃ j : Nat, k = j := ⟨k.toNat, by omega⟩
    obtain ⟨c, rfl⟩ : ∃ c : Nat, b = c := ⟨b.toNat, by omega⟩
    simp only [Int.toNat_natCast] at hin h4 ⊢
    exact ⟨h1, i, j, c, rfl, rfl, rfl, ⟨by omega, by omega, by omega, by omega, by omega, by omega, by omega⟩, rfl⟩
  · rw [if_pos h1] at h
    exact absurd h h1
end
section
variable {p : Plan} {s : State} {o k b n : Int}
theorem pick_bad (h : checkState p s ≠ 0) : pick p s o k b n = (dState, checkState p s) := by unfold pick; rw [if_pos h]
theorem pick_none (h : checkState p s = 0) (h2 : keptAt s.holds o k b = 0) : pick p s o k b n = (dState, 4) := by unfold pick; rw [if_neg (fun hn => hn h), if_pos h2]
theorem pick_range (h : checkState p s = 0) (h2 : keptAt s.holds o k b ≠ 0) (h3 : n < 0 ∨ keptAt s.holds o k b < n) : pick p s o k b n = (dState, 3) := by
  unfold pick
  rw [if_neg (fun hn => hn h), if_neg h2, within_false.2 h3]
  rfl
theorem pick_in (h : checkState p s = 0) (h2 : keptAt s.holds o k b ≠ 0) (h3 : 0 ≤ n ∧ n ≤ keptAt s.holds o k b) :
    ∃ i j c : Nat, o = i ∧ k = j ∧ b = c ∧ i < s.orders.length ∧ j < (s.order i).lines.length ∧ c < p.bins.length ∧ 1 ≤ keptAt s.holds i j c ∧ keptAt s.holds i j c ≤ 200 ∧
      pick p s o k b n = if 1048576 < intAt s.out (s.line i j).good.toNat + n then (dState, 2) else (pickS p s i j c n, 0) := by
  have hs := (right_of_check h).sane
  obtain ⟨hk1, hm⟩ := keptAt_key (holdsOk_iff.1 hs.holds).1 (holdsOk_iff.1 hs.holds).2 h2
  have hin := holdIn_iff.1 (List.all_eq_true.1 (formed_iff.1 hs.form).2.2.1 _ hm)
  simp only at hin
  have hr := keptAt_range (holdsOk_iff.1 hs.holds).1 (holdsOk_iff.1 hs.holds).2 o k b
  unfold keyOk at hk1
  obtain ⟨i, rfl⟩ : ∃ i : Nat, o = i := ⟨o.toNat, by omega⟩
  obtain ⟨j, rfl⟩ : ∃ j : Nat, k = j := ⟨k.toNat, by omega⟩
  obtain ⟨c, rfl⟩ : ∃ c : Nat, b = c := ⟨b.toNat, by omega⟩
  simp only [Int.toNat_natCast] at hin
  refine ⟨i, j, c, rfl, rfl, rfl, by omega, by omega, by omega, by omega, hr.2, ?_⟩
  unfold pick
  rw [if_neg (fun hn => hn h), if_neg h2, within_iff.2 h3, if_neg (by simp)]
  simp only [Int.toNat_natCast]
end
end Wh
namespace Wh

def mvC (b g : Int) : Cutter Move := ⟨fun x => decide (x.src = b) && decide (x.good = g), (·.n), fun x n => { x with n := n }, fun _ _ => rfl, fun _ _ => rfl, fun _ _ _ => rfl, fun _ => rfl⟩
def hdC (s : State) (b g : Int) : Cutter Hold := ⟨fun x => decide (x.bin = b) && decide ((s.line x.order.toNat x.line.toNat).good = g), (·.n), fun x n => { x with n := n }, fun _ _ => rfl, fun _ _ => rfl, fun _ _ _ => rfl, fun _ => rfl⟩
theorem mv_is {b g : Int} {x : Move} : (mvC b g).is x = true ↔ x.src = b ∧ x.good = g := by simp [mvC]
theorem hd_is {s : State} {b g : Int} {x : Hold} : (hdC s b g).is x = true ↔ x.bin = b ∧ (s.line x.order.toNat x.line.toNat).good = g := by simp [hdC]
theorem mv_part (b g : Int) (x : Move) : (mvC b g).part x = fromN b g x := by
  unfold Cutter.part fromN
  by_cases h : x.src = b ∧ x.good = g
  · rw [if_pos h, if_pos (mv_is.2 h)]; rfl
  · rw [if_neg h, if_neg (fun hh => h (mv_is.1 hh))]
theorem hd_part (s : State) (b g : Int) (x : Hold) : (hdC s b g).part x = heldN s b g x := by
  unfold Cutter.part heldN
  by_cases h : x.bin = b ∧ (s.line x.order.toNat x.line.toNat).good = g
  · rw [if_pos h, if_pos (hd_is.2 h)]; rfl
  · rw [if_neg h, if_neg (fun hh => h (hd_is.1 hh))]
theorem mv_all (b g : Int) (l : List Move) : (mvC b g).all l = goingOf l b g := by
  unfold Cutter.all goingOf
  congr 1
  exact List.map_congr_left fun x _ => mv_part b g x
theorem hd_all (s : State) (b g : Int) (l : List Hold) : (hdC s b g).all l = (l.map (heldN s b g)).sum := by
  unfold Cutter.all
  congr 1
  exact List.map_congr_left fun x _ => hd_part s b g x

namespace Cutter
variable {α β : Type} {C : Cutter α}
theorem cut_map (f : α → β) (hf : ∀ x n, f (C.put x n) = f x) (l : List α) (v : Int) : (C.cut l v).1.map f = l.map f := by
  induction l with
  | nil => rfl
  | cons x r ih =>
    cases hx : C.is x
    · rw [cut_not hx, List.map_cons, ih, List.map_cons]
    · rw [cut_is hx, List.map_cons, ih, List.map_cons, hf]
theorem cut_sum (F : α → Int) (hF : ∀ x n, C.is x = true → F (C.put x n) = F x) (l : List α) (v : Int) : ((C.cut l v).1.map F).sum = (l.map F).sum := by
  induction l with
  | nil => rfl
  | cons x r ih =>
    cases hx : C.is x
    · rw [cut_not hx, List.map_cons, List.sum_cons, ih, List.map_cons, List.sum_cons]
    · rw [cut_is hx, List.map_cons, List.sum_cons, ih, List.map_cons, List.sum_cons, hF x _ hx]
theorem rest_sum (F : α → Int) (hF : ∀ x n, C.is x = true → F (C.put x n) = F x) (h0 : ∀ x, C.num x = 0 → F x = 0) (l : List α) (v : Int) : ((C.rest l v).map F).sum = (l.map F).sum := by
  rw [← cut_sum F hF l v]
  unfold rest
  generalize (C.cut l v).1 = m
  induction m with
  | nil => rfl
  | cons x r ih =>
    rw [List.filter_cons]
    split
    · rw [List.map_cons, List.sum_cons, ih, List.map_cons, List.sum_cons]
    · rename_i hk
      have : C.num x = 0 := by unfold keep at hk; simpa using hk
      rw [ih, List.map_cons, List.sum_cons, h0 x this]
      omega
/-- Who may not be cut stays. -/
theorem rest_stays {l : List α} (h : C.Pos l) (v : Int) {x : α} (hx : x ∈ l) (hi : C.is x = false) : x ∈ C.rest l v := by
  have hn := h x hx
  refine List.mem_filter.2 ⟨?_, by unfold keep; simp; omega⟩
  clear hn
  induction l with
  | nil => simp at hx
  | cons y r ih =>
    rcases List.mem_cons.1 hx with rfl | hx
    · rw [cut_not hi]
      exact List.mem_cons_self ..
    · have := ih h.cons.2 hx
      cases hy : C.is y
      · rw [cut_not hy]; exact List.mem_cons_of_mem _ this
      · rw [cut_is hy]; exact List.mem_cons_of_mem _ this
end Cutter

def cutMv (s : State) (b g v : Int) : List Move := (mvC b g).rest s.moves v
def cutHd (s : State) (b g v : Int) : List Hold := (hdC s b g).rest s.holds (v - goingOf s.moves b g)
/-- How many pieces of a line's hold there are cut. -/
def cutN (s : State) (b g v : Int) (o k : Int) : Int := keptAt s.holds o k b - keptAt (cutHd s b g v) o k b
def cutOrders (s : State) (b g v : Int) : List Order := s.orders.mapIdx fun o x => { x with lines := x.lines.mapIdx fun k y => { y with back := y.back + cutN s b g v o k } }
/-- Seen pieces lie there; v pieces are cut. -/
def cutS (s : State) (b g : Nat) (seen v : Int) : State :=
  { on := setCell s.on b g seen, orders := cutOrders s b g v, holds := cutHd s b g v, moves := cutMv s b g v, inn := s.inn, out := s.out, fixed := s.fixed.set g (intAt s.fixed g + seen - cell s.on b g) }

section
variable {p : Plan} {s : State} {b g : Nat} {seen v : Int}
theorem mv_pos (hs : Sane p s) (b g : Int) : (mvC b g).Pos s.moves := fun x hx => by
  obtain ⟨i, hi, rfl⟩ := List.getElem_of_mem hx
  have := hs.moveAt hi
  rw [moveAt_eq hi] at this
  exact this.2.2.2.2.1
theorem hd_pos (hs : Sane p s) (b g : Int) : (hdC s b g).Pos s.holds := fun x hx => by
  have := (fine_iff.1 ((holdsOk_iff.1 hs.holds).1 x hx)).2.1
  exact this
theorem cutHd_ok (hs : Sane p s) (b g v : Int) : holdsOk (cutHd s b g v) = true := by
  obtain ⟨h1, h2⟩ := holdsOk_iff.1 hs.holds
  refine holdsOk_iff.2 ⟨fun y hy => ?_, ?_⟩
  · obtain ⟨x, hx, e, a, a', _⟩ := Cutter.rest_mem (hd_pos hs b g) _ y hy
    obtain ⟨c1, c2, c3⟩ := fine_iff.1 (h1 x hx)
    change 1 ≤ y.n at a
    change y.n ≤ x.n at a'
    rw [e]
    exact fine_iff.2 ⟨c1, a, by show y.n ≤ 200; omega⟩
  · unfold cutHd Cutter.rest rises
    refine List.Pairwise.filter _ ?_
    have e := Cutter.cut_map (C := hdC s b g) place (fun _ _ => rfl) s.holds (v - goingOf s.moves b g)
    have h3 : (s.holds.map place).Pairwise (· < ·) := List.pairwise_map.2 h2
    rw [← e] at h3
    exact List.pairwise_map.1 h3
theorem cutHd_keptAt (hs : Sane p s) (b g v : Int) (o k b' : Int) : keptAt (cutHd s b g v) o k b' ≤ keptAt s.holds o k b' ∧ (¬ (b' = b ∧ (s.line o.toNat k.toNat).good = g) → keptAt (cutHd s b g v) o k b' = keptAt s.holds o k b') := by
  obtain ⟨h1, h2⟩ := holdsOk_iff.1 hs.holds
  obtain ⟨h3, h4⟩ := holdsOk_iff.1 (cutHd_ok hs b g v)
  have n1 := kept_pos hs.holds o k b'
  have n2 := kept_pos (cutHd_ok hs b g v) o k b'
  have up : keptAt (cutHd s b g v) o k b' ≠ 0 → ∃ x ∈ s.holds, x.order = o ∧ x.line = k ∧ x.bin = b' ∧ keptAt (cutHd s b g v) o k b' ≤ x.n ∧ (¬ (b' = b ∧ (s.line o.toNat k.toNat).good = g) → keptAt (cutHd s b g v) o k b' = x.n) := fun hn => by
    obtain ⟨_, hm⟩ := keptAt_key h3 h4 hn
    obtain ⟨x, hx, e, a, a', hnot⟩ := Cutter.rest_mem (hd_pos hs b g) _ _ hm
    have e' : (⟨o, k, b', keptAt (cutHd s b g v) o k b'⟩ : Hold) = { x with n := keptAt (cutHd s b g v) o k b' } := e
    simp only [Hold.mk.injEq] at e'
    refine ⟨x, hx, e'.1.symm, e'.2.1.symm, e'.2.2.1.symm, a', fun hq => ?_⟩
    have hi : (hdC s b g).is x = false := by
      cases hi : (hdC s b g).is x
      · rfl
      · have := hd_is.1 hi
        rw [← e'.1, ← e'.2.1, ← e'.2.2.1] at this
        exact absurd this hq
    have := hnot hi
    rw [← this]
  constructor
  · by_cases hn : keptAt (cutHd s b g v) o k b' = 0
    · omega
    · obtain ⟨x, hx, e1, e2, e3, hle, _⟩ := up hn
      have := keptAt_mem h1 h2 hx
      rw [e1, e2, e3] at this
      omega
  · intro hq
    by_cases hn : keptAt (cutHd s b g v) o k b' = 0
    · by_cases hm : keptAt s.holds o k b' = 0
      · omega
      · obtain ⟨_, hmem⟩ := keptAt_key h1 h2 hm
        have hi : (hdC s b g).is ⟨o, k, b', keptAt s.holds o k b'⟩ = false := by
          cases hi : (hdC s b g).is ⟨o, k, b', keptAt s.holds o k b'⟩
          · rfl
          · exact absurd (hd_is.1 hi) hq
        have := Cutter.rest_stays (hd_pos hs b g) (v - goingOf s.moves b g) hmem hi
        have := keptAt_mem h3 h4 this
        simp only at this
        omega
    · obtain ⟨x, hx, e1, e2, e3, _, he⟩ := up hn
      have := keptAt_mem h1 h2 hx
      rw [e1, e2, e3] at this
      rw [he hq, this]
theorem cutN_range (hs : Sane p s) (b : Nat) (g v : Int) (o k : Int) : 0 ≤ cutN s b g v o k ∧ cutN s b g v o k ≤ keptAt s.holds o k b ∧ cutN s b g v o k ≤ kept s.holds o k := by
  have h1 := (cutHd_keptAt hs b g v o k b).1
  have h2 := kept_pos (cutHd_ok hs b g v) o k b
  have h3 := keptAt_kept hs.holds o k b
  unfold cutN
  omega
theorem cutHd_kept (hs : Sane p s) {b : Nat} (hb : b < p.bins.length) (g v : Int) (o k : Int) : kept (cutHd s b g v) o k = kept s.holds o k - cutN s b g v o k := by
  rw [kept_bins hs.holds, kept_bins (cutHd_ok hs b g v)]
  have := sumTo_one (f := fun b => keptAt s.holds o k b) (g := fun b' => keptAt (cutHd s b g v) o k b') (n := 6) (i := b) (d := - cutN s b g v o k) (by have := hs.counts; omega) (fun i _ hne => (cutHd_keptAt hs b g v o k i).2 (fun h => hne (by omega))) (by
    show keptAt (cutHd s b g v) o k b = keptAt s.holds o k b + -cutN s b g v o k
    unfold cutN
    omega)
  rw [this]
  omega
theorem cut_order (o : Nat) (ho : o < s.orders.length) : (cutS s b g seen v).order o = { s.order o with lines := (s.order o).lines.mapIdx fun k y => { y with back := y.back + cutN s b g v o k } } := by
  unfold State.order orderAt cutS cutOrders
  simp [List.getD, ho]
theorem cut_len : (cutS s b g seen v).orders.length = s.orders.length := by simp [cutS, cutOrders]
theorem cut_lines (o : Nat) (ho : o < s.orders.length) : ((cutS s b g seen v).order o).lines.length = (s.order o).lines.length := by rw [cut_order o ho]; simp
theorem cut_kind (o : Nat) (ho : o < s.orders.length) : ((cutS s b g seen v).order o).kind = (s.order o).kind := by rw [cut_order o ho]
theorem cut_line {o k : Nat} (ho : o < s.orders.length) (hk : k < (s.order o).lines.length) : (cutS s b g seen v).line o k = { s.line o k with back := (s.line o k).back + cutN s b g v o k } := by
  unfold State.line
  rw [cut_order o ho, lineAt_eq (by simpa using hk), lineAt_eq hk]
  simp
theorem cut_heldIn (hs : Sane p s) (b' g' : Int) : heldIn (cutS s b g seen v) b' g' = ((cutHd s b g v).map (heldN s b' g')).sum := by
  unfold heldIn
  congr 1
  apply List.map_congr_left
  intro x hx
  obtain ⟨y, hy, e, _, _, _⟩ := Cutter.rest_mem (hd_pos hs b g) _ x hx
  have e' : x = { y with n := x.n } := e
  obtain ⟨i, hi, rfl⟩ := List.getElem_of_mem hy
  have h2 := hs.holdAt hi
  rw [hold_get hi] at h2
  unfold heldN
  rw [e']
  simp only
  rw [cut_line (by omega) (by omega)]
theorem cut_bound_same (hs : Sane p s) (hv : 0 ≤ v) (hv2 : v ≤ bound s b g) : bound (cutS s b g seen v) b g = bound s b g - v := by
  have h1 : goingOf (cutS s b g seen v).moves b g = _ := (mv_all b g _).symm.trans (Cutter.rest_all (mv_pos hs b g) v)
  rw [mv_all] at h1
  have h2 := cut_heldIn (b := b) (g := g) (seen := seen) (v := v) hs b g
  have h3 := Cutter.rest_all (hd_pos hs b g) (v - goingOf s.moves b g)
  rw [hd_all, hd_all] at h3
  change ((cutHd s b g v).map (heldN s b g)).sum = heldIn s b g - min (max (v - goingOf s.moves b g) 0) (heldIn s b g) at h3
  rw [h3] at h2
  have h4 := goingOf_nonneg hs b g
  have h5 := heldTo_range hs b g s.holds.length
  rw [heldTo_all] at h5
  unfold bound at hv2 ⊢
  rw [h1, h2]
  omega
theorem cut_bound_other (hs : Sane p s) {b' g' : Int} (hne : ¬ (b' = b ∧ g' = g)) : bound (cutS s b g seen v) b' g' = bound s b' g' := by
  have h1 : goingOf (cutS s b g seen v).moves b' g' = goingOf s.moves b' g' := Cutter.rest_sum (C := mvC b g) (fromN b' g') (fun x n hx => by
    have := mv_is.1 hx
    unfold fromN
    rw [if_neg (by show ¬ (x.src = b' ∧ x.good = g'); omega), if_neg (by omega)]) (fun x hx => by
    have hx' : x.n = 0 := hx
    unfold fromN
    rw [hx']
    split <;> rfl) s.moves v
  have h2 := cut_heldIn (b := b) (g := g) (seen := seen) (v := v) hs b' g'
  have h3 : ((cutHd s b g v).map (heldN s b' g')).sum = heldIn s b' g' := Cutter.rest_sum (C := hdC s b g) (heldN s b' g') (fun x n hx => by
    have := hd_is.1 hx
    unfold heldN
    rw [if_neg (by show ¬ (x.bin = b' ∧ (s.line x.order.toNat x.line.toNat).good = g'); omega), if_neg (by omega)]) (fun x hx => by
    have hx' : x.n = 0 := hx
    unfold heldN
    rw [hx']
    split <;> rfl) s.holds _
  unfold bound
  rw [h1, h2, h3]

/-- What may be counted. -/
structure Counts (p : Plan) (s : State) (b g : Nat) (seen : Int) : Prop where
  hb : b < p.bins.length
  hg : g < p.sizes.length
  s0 : 0 ≤ seen
  s1 : seen ≤ 200
  f0 : -1048576 ≤ intAt s.fixed g + seen - cell s.on b g
  f1 : intAt s.fixed g + seen - cell s.on b g ≤ 1048576
/-- How many pieces are too many. -/
def over (s : State) (b g : Nat) (seen : Int) : Int := max (bound s b g - seen) 0
theorem cut_check (hc : checkState p s = 0) (f : Counts p s b g seen) : checkState p (cutS s b g seen (over s b g seen)) = 0 := by
  obtain ⟨h, hgot⟩ := check_iff.1 hc
  have hs := h.sane
  have hb0 := bound_range hs b g
  have hs0 := f.s0
  have hov : 0 ≤ over s b g seen ∧ over s b g seen ≤ bound s b g ∧ bound s b g - over s b g seen ≤ seen := by unfold over; omega
  generalize over s b g seen = v at hov
  have hbl : b < s.on.length := by rw [hs.onLen]; exact f.hb
  have hgl : g < (rowAt s.on b).length := by rw [hs.rowLen f.hb]; exact f.hg
  have hfl : g < s.fixed.length := by rw [hs.fixed.1]; exact f.hg
  refine check_iff.2 ⟨Right.of (Sane.of ?_ (by rw [cut_len]; exact hs.orders4) ?_ (fun o ho => ?_) (fun o k ho hk => ?_) (cutHd_ok hs b g v) (fun x hx => ?_) (fun x hx => ?_)
    (formed_iff.1 hs.form).2.2.2.2.1 (formed_iff.1 hs.form).2.2.2.2.2.1 (sumsOk_set (formed_iff.1 hs.form).2.2.2.2.2.2 hfl f.f0 f.f1)) (fun g' hg' => ?_) (fun b' g' hb' hg' => ?_) (fun o k ho hk => ?_), fun o ho => ?_⟩
  · exact checkShelf_zero.2 ⟨hs.plan, setCell_ok (checkShelf_zero.1 hs.shelf).2 ⟨f.s0, f.s1⟩ f.hb f.hg⟩
  · refine Nat.le_trans (Nat.le_trans (List.length_filter_le _ _) ?_) hs.moves8
    rw [Cutter.cut_length]
    exact Nat.le_refl _
  · rw [cut_len] at ho
    rw [cut_lines o ho, cut_kind o ho]
    exact ⟨hs.lines3 ho, hs.kind ho⟩
  · rw [cut_len] at ho
    rw [cut_lines o ho] at hk
    have hl := hs.line ho hk
    have h1 := (h.lineSum ho hk).1
    have h2 := cutN_range hs b g v o k
    have h3 := (kept_range hs.holds o k).1
    rw [cut_line ho hk, lineOk_iff]
    simp only
    refine ⟨hl.1, hl.2.1, hl.2.2.1, ?_⟩
    split at h1 <;> omega
  · obtain ⟨y, hy, e, _, _, _⟩ := Cutter.rest_mem (hd_pos hs b g) _ x hx
    have e' : x = { y with n := x.n } := e
    have h1 := holdIn_iff.1 (List.all_eq_true.1 (formed_iff.1 hs.form).2.2.1 y hy)
    obtain ⟨i, hi, rfl⟩ := List.getElem_of_mem hy
    have h2 := hs.holdAt hi
    rw [hold_get hi] at h2
    rw [e']
    exact holdIn_iff.2 ⟨by rw [cut_len]; exact h1.1, by rw [cut_lines _ (by show (s.holds[i]).order.toNat < _; omega)]; exact h1.2.1, h1.2.2⟩
  · obtain ⟨y, hy, e, a, a', _⟩ := Cutter.rest_mem (mv_pos hs b g) _ x hx
    have e' : x = { y with n := x.n } := e
    have h1 := moveOk_iff.1 (List.all_eq_true.1 (formed_iff.1 hs.form).2.2.2.1 y hy)
    change 1 ≤ x.n at a
    change x.n ≤ y.n at a'
    rw [e']
    exact moveOk_iff.2 ⟨h1.1, h1.2.1, h1.2.2.1, h1.2.2.2.1, a, by show x.n ≤ 200; omega⟩
  · have h1 := h.sum hg'
    have e1 : sumOf (cutS s b g seen v).on g' = _ := sumOf_setCell (n := seen) hbl hgl g'
    have e2 : intAt (cutS s b g seen v).fixed g' = if g' = g then intAt s.fixed g + seen - cell s.on b g else intAt s.fixed g' := intAt_set hfl
    rw [e1, e2]
    show _ = intAt s.inn g' - intAt s.out g' + _
    split
    · rename_i hq
      subst hq
      omega
    · omega
  · have h1 := h.bnd hb' hg'
    have e1 : cell (cutS s b g seen v).on b' g' = if b' = b ∧ g' = g then seen else cell s.on b' g' := cell_setCell hbl hgl
    rw [e1]
    by_cases hq : b' = b ∧ g' = g
    · obtain ⟨rfl, rfl⟩ := hq
      rw [if_pos ⟨rfl, rfl⟩, cut_bound_same hs hov.1 hov.2.1]
      exact hov.2.2
    · rw [if_neg hq, cut_bound_other hs (by omega)]
      exact h1
  · rw [cut_len] at ho
    rw [cut_lines o ho] at hk
    obtain ⟨l1, l2⟩ := h.lineSum ho hk
    have h2 := cutN_range hs b g v o k
    have h3 := (kept_range hs.holds o k).1
    have hl := hs.line ho hk
    refine lineSummed_iff.2 ?_
    have e1 : kept (cutS s b g seen v).holds o k = kept s.holds o k - cutN s b g v o k := cutHd_kept hs f.hb g v o k
    rw [cut_line ho hk, cut_kind o ho, e1]
    simp only
    refine ⟨?_, fun hh => l2 ⟨hh.1, by omega⟩⟩
    split at l1 <;> rename_i hz
    · rw [if_pos hz]; omega
    · rw [if_neg hz]; omega
  · rw [cut_len] at ho
    rw [cut_kind o ho]
    rintro ⟨h1, h2⟩
    refine hgot o ho ⟨h1, allGot_iff.2 fun k hk => ?_⟩
    have h3 := allGot_iff.1 h2 k (by rw [cut_lines o ho]; exact hk)
    have h4 := cut_line (b := b) (g := g) (seen := seen) (v := v) ho hk
    unfold State.line at h4
    rw [h4] at h3
    exact h3
end
end Wh
