/- Texts of the claim, joined: PlainL, PickA. -/
import Derived.Test.YtijilfghfahgjaaQ17
import Derived.Test.YtijilfghfahgjaaQ11
import Derived.Test.YtijilfghfahgjaaQ27
import Derived.Test.YtijilfghfahgjaaQ28
namespace Wh

/-- What is picked, ahead of the line. -/
def preS (s : State) (o k b : Nat) (n : Int) : State :=
  { s with on := setCell s.on b (s.line o k).good.toNat (cell s.on b (s.line o k).good.toNat - n), out := s.out.set (s.line o k).good.toNat (intAt s.out (s.line o k).good.toNat + n), holds := withHold s.holds ⟨o, k, b, 0⟩ }
theorem picked_eq (s : State) (o k b : Nat) (held n : Int) : picked s o k b held n = (preS s o k b n).setLine o k { s.line o k with got := (s.line o k).got + n, back := (s.line o k).back + held - n } := rfl

/-- What may be picked. -/
structure Picks (p : Plan) (s : State) (o k b : Nat) (n : Int) : Prop where
  ho : o < s.orders.length
  hk : k < (s.order o).lines.length
  hb : b < p.bins.length
  held : 1 ≤ keptAt s.holds o k b
  n0 : 0 ≤ n
  n1 : n ≤ keptAt s.holds o k b
  out : intAt s.out (s.line o k).good.toNat + n ≤ 1048576

section
variable {p : Plan} {s : State} {o k b : Nat} {n : Int}
theorem keptAt_kept {l : List Hold} (hl : holdsOk l = true) (o ln : Int) (b : Nat) : keptAt l o ln b ≤ kept l o ln := by
  by_cases hb : b < 6
  · rw [kept_bins hl]
    have h0 : ∀ i, i < 6 → 0 ≤ keptAt l o ln i := fun i _ => kept_pos hl _ _ _
    have : ∀ m, b < m → m ≤ 6 → keptAt l o ln b ≤ sumTo (fun i => keptAt l o ln i) m := by
      intro m
      induction m with
      | zero => intro h; omega
      | succ m ih =>
        intro h h6
        have hs : ∀ q, q ≤ 6 → 0 ≤ sumTo (fun i => keptAt l o ln i) q := by
          intro q
          induction q with
          | zero => intro _; exact Int.le_refl _
          | succ q ih => intro hq; have := ih (by omega); have := h0 q (by omega); show 0 ≤ sumTo (fun i => keptAt l o ln i) q + keptAt l o ln q; omega
        show _ ≤ sumTo _ m + keptAt l o ln m
        by_cases e : b = m
        · subst e
          have := hs b (by omega)
          omega
        · have := ih (by omega) (by omega)
          have := h0 m (by omega)
          omega
    exact this 6 hb (by omega)
  · have h1 := kept_range hl o ln
    by_cases h0 : keptAt l o ln b = 0
    · rw [h0]; exact h1.1
    · have := (keptAt_key (holdsOk_iff.1 hl).1 (holdsOk_iff.1 hl).2 h0).1
      unfold keyOk at this
      omega
theorem picks_good (h : Right p s) (f : Picks p s o k b n) : ((s.line o k).good.toNat : Int) = (s.line o k).good ∧ (s.line o k).good.toNat < p.sizes.length := by
  have := (h.sane.line f.ho f.hk).1
  omega
theorem picks_kind (h : Right p s) (f : Picks p s o k b n) : (s.order o).kind = 1 := by
  have h1 := h.lineSum f.ho f.hk
  have h2 := h.sane.kind f.ho
  have h3 := keptAt_kept h.sane.holds o k b
  have h4 := f.held
  have h5 := h.sane.line f.ho f.hk
  have h6 : (s.order o).kind ≠ 0 := fun e => by rw [if_pos e] at h1; omega
  have h7 : (s.order o).kind ≠ 2 := fun e => h1.2 ⟨e, by omega⟩
  omega
theorem picks_cell (h : Right p s) (f : Picks p s o k b n) : keptAt s.holds o k b ≤ bound s b (s.line o k).good ∧ bound s b (s.line o k).good ≤ cell s.on b (s.line o k).good.toNat ∧ cell s.on b (s.line o k).good.toNat ≤ 200 := by
  obtain ⟨e, hg⟩ := picks_good h f
  have h1 := keptAt_held h.sane o k b
  have h2 := goingOf_nonneg h.sane b (s.line o k).good
  have h3 := h.bnd f.hb hg
  rw [e] at h3
  have h4 := h.sane.cell f.hb hg
  simp only [Int.toNat_natCast] at h1
  exact ⟨by unfold bound; omega, h3, h4.2⟩
theorem picked_line (f : Picks p s o k b n) (held : Int) (o' k' : Nat) : (picked s o k b held n).line o' k' = if o' = o ∧ k' = k then { s.line o k with got := (s.line o k).got + n, back := (s.line o k).back + held - n } else s.line o' k' :=
  line_setLine (s := preS s o k b n) f.ho f.hk _ o' k'
theorem picked_kind (f : Picks p s o k b n) (held : Int) (o' : Nat) : ((picked s o k b held n).order o').kind = (s.order o').kind := kind_setLine (s := preS s o k b n) f.ho _ _ _
theorem picked_lines (f : Picks p s o k b n) (held : Int) (o' : Nat) : ((picked s o k b held n).order o').lines.length = (s.order o').lines.length := lines_setLine (s := preS s o k b n) f.ho _ _ _
theorem picked_orders (held : Int) : (picked s o k b held n).orders.length = s.orders.length := orders_setLine _ _ _ _
theorem picked_fixed (f : Picks p s o k b n) (held : Int) (o' k' : Nat) : ((picked s o k b held n).line o' k').good = (s.line o' k').good ∧ ((picked s o k b held n).line o' k').want = (s.line o' k').want := by
  rw [picked_line f]
  split
  · rename_i hq
    obtain ⟨rfl, rfl⟩ := hq
    exact ⟨rfl, rfl⟩
  · exact ⟨rfl, rfl⟩
theorem picked_holdsOk (h : Right p s) (f : Picks p s o k b n) (held : Int) : holdsOk (picked s o k b held n).holds = true :=
  with_ok (h := ⟨o, k, b, 0⟩) h.sane.holds (key_of h.sane f.ho f.hk f.hb) ⟨Int.le_refl _, by show (0 : Int) ≤ 200; omega⟩
theorem picked_kept (h : Right p s) (f : Picks p s o k b n) (held : Int) (o' k' : Int) : kept (picked s o k b held n).holds o' k' = kept s.holds o' k' - if (o : Int) = o' ∧ (k : Int) = k' then keptAt s.holds o k b else 0 := by
  have e := kept_with (h := ⟨o, k, b, 0⟩) h.sane.holds (key_of h.sane f.ho f.hk f.hb) ⟨Int.le_refl _, by show (0 : Int) ≤ 200; omega⟩ o' k'
  refine e.trans ?_
  simp only
  split <;> omega
theorem picked_bound (h : Right p s) (f : Picks p s o k b n) (held : Int) (b' g : Int) : bound (picked s o k b held n) b' g = bound s b' g - if (b : Int) = b' ∧ (s.line o k).good = g then keptAt s.holds o k b else 0 := by
  have e1 : heldIn (picked s o k b held n) b' g = heldIn { s with holds := withHold s.holds ⟨o, k, b, 0⟩ } b' g :=
    heldIn_congr (s := { s with holds := withHold s.holds ⟨o, k, b, 0⟩ }) (t := picked s o k b held n) rfl (fun o' k' => (picked_fixed f held o' k').1) b' g
  have e2 := heldIn_with (s := s) (h := ⟨o, k, b, 0⟩) h.sane.holds (key_of h.sane f.ho f.hk f.hb) b' g
  unfold bound
  rw [e1, e2]
  simp only [Int.toNat_natCast]
  have : goingOf (picked s o k b held n).moves b' g = goingOf s.moves b' g := rfl
  rw [this]
  split <;> omega
theorem picked_right (h : Right p s) (f : Picks p s o k b n) : Right p (picked s o k b (keptAt s.holds o k b) n) := by
  obtain ⟨e, hg⟩ := picks_good h f
  obtain ⟨c1, c2, c3⟩ := picks_cell h f
  have hkd := picks_kind h f
  have hn0 := f.n0
  have hn1 := f.n1
  have hout := f.out
  have hs := h.sane
  have hbl : b < s.on.length := by rw [hs.onLen]; exact f.hb
  have hgl : (s.line o k).good.toNat < (rowAt s.on b).length := by rw [hs.rowLen f.hb]; exact hg
  have hol : (s.line o k).good.toNat < s.out.length := by rw [hs.out.1]; exact hg
  have hls := h.lineSum f.ho f.hk
  have hln := hs.line f.ho f.hk
  have hkk := keptAt_kept hs.holds o k b
  rw [if_neg (by omega)] at hls
  refine Right.of (Sane.of ?_ (by rw [picked_orders]; exact hs.orders4) hs.moves8 (fun o' ho' => ?_) (fun o' k' ho' hk' => ?_) (picked_holdsOk h f _) (fun x hx => ?_) (fun x hx => List.all_eq_true.1 (formed_iff.1 hs.form).2.2.2.1 x hx)
    (formed_iff.1 hs.form).2.2.2.2.1 (sumsOk_set (formed_iff.1 hs.form).2.2.2.2.2.1 hol (by have := (hs.out.2 hg).1; omega) hout) (formed_iff.1 hs.form).2.2.2.2.2.2) (fun g hg' => ?_) (fun b' g hb' hg' => ?_) (fun o' k' ho' hk' => ?_)
  · exact checkShelf_zero.2 ⟨hs.plan, setCell_ok (checkShelf_zero.1 hs.shelf).2 (by omega) f.hb hg⟩
  · rw [picked_orders] at ho'
    rw [picked_lines f, picked_kind f]
    exact ⟨hs.lines3 ho', hs.kind ho'⟩
  · rw [picked_orders] at ho'
    rw [picked_lines f] at hk'
    have hl := hs.line ho' hk'
    rw [picked_line f, lineOk_iff]
    split
    · rename_i hq
      obtain ⟨rfl, rfl⟩ := hq
      simp only
      omega
    · exact hl
  · have hin : holdIn p s x = true := by
      rcases with_mem.1 hx with ⟨h1, _⟩ | ⟨_, h1⟩
      · exact List.all_eq_true.1 (formed_iff.1 hs.form).2.2.1 x h1
      · exact absurd rfl h1
    have := holdIn_iff.1 hin
    exact holdIn_iff.2 ⟨by rw [picked_orders]; exact this.1, by rw [picked_lines f]; exact this.2.1, this.2.2⟩
  · have h1 := h.sum hg'
    have e1 : sumOf (picked s o k b (keptAt s.holds o k b) n).on g = _ := sumOf_setCell (n := cell s.on b (s.line o k).good.toNat - n) hbl hgl g
    have e2 : intAt (picked s o k b (keptAt s.holds o k b) n).out g = if g = (s.line o k).good.toNat then intAt s.out (s.line o k).good.toNat + n else intAt s.out g := intAt_set hol
    have e3 : intAt (picked s o k b (keptAt s.holds o k b) n).inn g = intAt s.inn g := rfl
    have e4 : intAt (picked s o k b (keptAt s.holds o k b) n).fixed g = intAt s.fixed g := rfl
    rw [e1, e2, e3, e4]
    split
    · rename_i hq
      subst hq
      omega
    · omega
  · have h1 := h.bnd hb' hg'
    rw [picked_bound h f]
    have e1 : cell (picked s o k b (keptAt s.holds o k b) n).on b' g = if b' = b ∧ g = (s.line o k).good.toNat then cell s.on b (s.line o k).good.toNat - n else cell s.on b' g := cell_setCell hbl hgl
    rw [e1]
    by_cases hq : b' = b ∧ g = (s.line o k).good.toNat
    · rw [if_pos hq, if_pos ⟨by omega, by omega⟩]
      obtain ⟨rfl, rfl⟩ := hq
      rw [e]
      omega
    · rw [if_neg hq, if_neg (by omega)]
      omega
  · rw [picked_orders] at ho'
    rw [picked_lines f] at hk'
    obtain ⟨l1, l2⟩ := h.lineSum ho' hk'
    obtain ⟨g1, g2⟩ := picked_fixed f (keptAt s.holds o k b) o' k'
    refine lineSummed_iff.2 ?_
    rw [g2, picked_kept h f, picked_kind f, picked_line f]
    by_cases hq : o' = o ∧ k' = k
    · obtain ⟨rfl, rfl⟩ := hq
      rw [if_pos ⟨rfl, rfl⟩, if_pos ⟨rfl, rfl⟩, if_neg (by omega)]
      simp only
      exact ⟨by omega, by omega⟩
    · rw [if_neg hq, if_neg (by omega), Int.sub_zero]
      exact ⟨l1, l2⟩
theorem picked_may (h : Right p s) (f : Picks p s o k b n) : May (picked s o k b (keptAt s.holds o k b) n) o k (keptAt s.holds o k b - n) := by
  have hln := (h.sane.line f.ho f.hk).2.2.2.1
  refine ⟨by rw [picked_orders]; exact f.ho, by rw [picked_lines f]; exact f.hk, by rw [picked_kind f]; exact picks_kind h f, by have := f.n1; omega, ?_⟩
  rw [picked_line f, if_pos ⟨rfl, rfl⟩]
  simp only
  omega
/-- The state behind the pick, ahead of its closing. -/
def pickT (p : Plan) (s : State) (o k b : Nat) (n : Int) : State := (takeS p (picked s o k b (keptAt s.holds o k b) n) o k (keptAt s.holds o k b - n) b).1
theorem pickS_eq : pickS p s o k b n = close (pickT p s o k b n) o := rfl
theorem pickT_held (h : Right p s) (f : Picks p s o k b n) :
    Held p (picked s o k b (keptAt s.holds o k b) n) (pickT p s o k b n) o k (keptAt s.holds o k b - n - (takeS p (picked s o k b (keptAt s.holds o k b) n) o k (keptAt s.holds o k b - n) b).2) ∧ 0 ≤ (takeS p (picked s o k b (keptAt s.holds o k b) n) o k (keptAt s.holds o k b - n) b).2 ∧
    (takeS p (picked s o k b (keptAt s.holds o k b) n) o k (keptAt s.holds o k b - n) b).2 ≤ keptAt s.holds o k b - n := takeS_held (picked_right h f) (picked_may h f)
-- closing
theorem close_order (t : State) (o : Nat) (ho : o < t.orders.length) (o' : Nat) : (close t o).order o' = if o' = o ∧ allGot (t.order o) = true then { t.order o with kind := 2 } else t.order o' := by
  unfold close
  by_cases ha : allGot (t.order o) = true
  · rw [if_pos ha]
    have : State.order { t with orders := t.orders.set o { t.order o with kind := 2 } } o' = if o' = o then { t.order o with kind := 2 } else t.order o' := orderAt_set ho _ _
    rw [this]
    by_cases e : o' = o
    · rw [if_pos e, if_pos ⟨e, ha⟩]
    · rw [if_neg e, if_neg (fun h => e h.1)]
  · rw [if_neg ha, if_neg (fun h => ha h.2)]
theorem close_lines (t : State) (o : Nat) (ho : o < t.orders.length) (o' : Nat) : ((close t o).order o').lines = (t.order o').lines := by
  rw [close_order t o ho]
  split
  · rename_i h; rw [h.1]
  · rfl
theorem close_line (t : State) (o : Nat) (ho : o < t.orders.length) (o' k' : Nat) : (close t o).line o' k' = t.line o' k' := by
  unfold State.line
  rw [close_lines t o ho]
theorem close_len (t : State) (o : Nat) : (close t o).orders.length = t.orders.length := by
  unfold close
  split <;> simp
theorem close_rest (t : State) (o : Nat) : (close t o).on = t.on ∧ (close t o).holds = t.holds ∧ (close t o).moves = t.moves ∧ (close t o).inn = t.inn ∧ (close t o).out = t.out ∧ (close t o).fixed = t.fixed := by
  unfold close
  split <;> exact ⟨rfl, rfl, rfl, rfl, rfl, rfl⟩
theorem close_bound (t : State) (o : Nat) (ho : o < t.orders.length) (b g : Int) : bound (close t o) b g = bound t b g := by
  have e : heldIn (close t o) b g = heldIn t b g := heldIn_congr (close_rest t o).2.1 (fun o' k' => by rw [close_line t o ho]) b g
  unfold bound
  rw [e, (close_rest t o).2.2.1]
theorem close_check {t : State} {o : Nat} (h : Right p t) (ho : o < t.orders.length) (hkd : (t.order o).kind = 1) (hot : ∀ o', o' < t.orders.length → o' ≠ o → ¬ ((t.order o').kind = 1 ∧ allGot (t.order o') = true)) : checkState p (close t o) = 0 := by
  have hs := h.sane
  obtain ⟨r1, r2, r3, r4, r5, r6⟩ := close_rest t o
  have hord := close_order t o ho
  have hkind : ∀ o', ((close t o).order o').kind = if o' = o ∧ allGot (t.order o) = true then 2 else (t.order o').kind := fun o' => by
    rw [hord]
    split <;> rfl
  refine check_iff.2 ⟨Right.of (Sane.of (by rw [r1]; exact hs.shelf) (by rw [close_len]; exact hs.orders4) (by rw [r3]; exact hs.moves8) (fun o' ho' => ?_) (fun o' k' ho' hk' => ?_) (by rw [r2]; exact hs.holds) (fun x hx => ?_) (fun x hx => ?_)
    (by rw [r4]; exact (formed_iff.1 hs.form).2.2.2.2.1) (by rw [r5]; exact (formed_iff.1 hs.form).2.2.2.2.2.1) (by rw [r6]; exact (formed_iff.1 hs.form).2.2.2.2.2.2)) (fun g hg => ?_) (fun b g hb hg => ?_) (fun o' k' ho' hk' => ?_), fun o' ho' => ?_⟩
  · rw [close_len] at ho'
    rw [close_lines t o ho, hkind]
    refine ⟨hs.lines3 ho', ?_⟩
    have := hs.kind ho'
    split <;> omega
  · rw [close_len] at ho'
    rw [close_lines t o ho] at hk'
    rw [close_line t o ho]
    exact lineOk_iff.2 (hs.line ho' hk')
  · rw [r2] at hx
    have := holdIn_iff.1 (List.all_eq_true.1 (formed_iff.1 hs.form).2.2.1 x hx)
    exact holdIn_iff.2 ⟨by rw [close_len]; exact this.1, by rw [close_lines t o ho]; exact this.2.1, this.2.2⟩
  · rw [r3] at hx
    exact List.all_eq_true.1 (formed_iff.1 hs.form).2.2.2.1 x hx
  · rw [r1, r4, r5, r6]
    exact h.sum hg
  · rw [close_bound t o ho, r1]
    exact h.bnd hb hg
  · rw [close_len] at ho'
    rw [close_lines t o ho] at hk'
    have h1 := h.lineSum ho' hk'
    have h2 := hs.line ho' hk'
    have h3 := (kept_range hs.holds o' k').1
    refine lineSummed_iff.2 ?_
    rw [close_line t o ho, r2, hkind]
    by_cases hq : o' = o ∧ allGot (t.order o) = true
    · rw [if_pos hq]
      obtain ⟨rfl, ha⟩ := hq
      have h4 := allGot_iff.1 ha k' hk'
      change (t.line o' k').got = (t.line o' k').want at h4
      rw [if_neg (by omega)] at h1
      rw [if_neg (by omega)]
      omega
    · rw [if_neg hq]
      exact h1
  · rw [close_len] at ho'
    rw [hkind]
    by_cases hq : o' = o ∧ allGot (t.order o) = true
    · rw [if_pos hq]
      omega
    · rw [if_neg hq]
      have e : allGot ((close t o).order o') = allGot (t.order o') := by
        unfold allGot
        rw [close_lines t o ho]
      rw [e]
      by_cases ho2 : o' = o
      · subst ho2
        rintro ⟨_, ha⟩
        exact hq ⟨rfl, ha⟩
      · exact hot o' ho' ho2

/-- What is known of what was picked. -/
theorem pickS_true (hc : checkState p s = 0) (f : Picks p s o k b n) : checkState p (pickS p s o k b n) = 0 ∧ (pickS p s o k b n).orders.length = s.orders.length ∧ (∀ o', ((pickS p s o k b n).order o').lines.length = (s.order o').lines.length) ∧
    (∀ o' k' : Nat, ¬ (o' = o ∧ k' = k) → kept (pickS p s o k b n).holds o' k' = kept s.holds o' k' ∧ (pickS p s o k b n).line o' k' = s.line o' k') ∧ ((pickS p s o k b n).line o k).got = (s.line o k).got + n ∧
    (((pickS p s o k b n).order o).kind = 2 ↔ allGot ((pickS p s o k b n).order o) = true) := by
  obtain ⟨h, hgot⟩ := check_iff.1 hc
  obtain ⟨ht, _, _⟩ := pickT_held h f
  have hot : o < (pickT p s o k b n).orders.length := by rw [ht.orders, picked_orders]; exact f.ho
  have hkd : ((pickT p s o k b n).order o).kind = 1 := by rw [ht.kind, picked_kind f]; exact picks_kind h f
  have hline : ∀ o' k', ¬ (o' = o ∧ k' = k) → (pickT p s o k b n).line o' k' = s.line o' k' := fun o' k' hn => by
    have h1 := ht.line o' k'
    have h2 := ht.back o' k'
    rw [if_neg hn, Int.sub_zero] at h2
    rw [picked_line f, if_neg hn] at h1 h2
    obtain ⟨a1, a2, a3⟩ := h1
    cases hx : (pickT p s o k b n).line o' k'
    cases hy : s.line o' k'
    rw [hx, hy] at a1 a2 a3 h2
    simp only at a1 a2 a3 h2
    rw [a1, a2, a3, h2]
  rw [pickS_eq]
  refine ⟨close_check ht.right hot hkd (fun o' ho' hne => ?_), by rw [close_len, ht.orders, picked_orders], fun o' => by rw [close_lines _ o hot, ht.lines, picked_lines f], fun o' k' hn => ⟨?_, ?_⟩, ?_, ?_⟩
  · rw [ht.orders, picked_orders] at ho'
    rw [ht.kind, picked_kind f, ht.allGot]
    have e : allGot ((picked s o k b (keptAt s.holds o k b) n).order o') = allGot (s.order o') := by
      have : (picked s o k b (keptAt s.holds o k b) n).order o' = s.order o' := by
        have := order_setLine (s := preS s o k b n) f.ho k { s.line o k with got := (s.line o k).got + n, back := (s.line o k).back + keptAt s.holds o k b - n } o'
        rw [if_neg hne] at this
        exact this
      rw [this]
    rw [e]
    exact hgot o' ho'
  · rw [(close_rest _ o).2.1, ht.kept, if_neg (by omega), picked_kept h f, if_neg (by omega)]
    omega
  · rw [close_line _ o hot, hline o' k' hn]
  · rw [close_line _ o hot, (ht.line o k).2.2, picked_line f, if_pos ⟨rfl, rfl⟩]
  · have e : allGot ((close (pickT p s o k b n) o).order o) = allGot ((pickT p s o k b n).order o) := by
      unfold allGot
      rw [close_lines _ o hot]
    rw [e, close_order _ o hot]
    by_cases ha : allGot ((pickT p s o k b n).order o) = true
    · rw [if_pos ⟨rfl, ha⟩]
      simp [ha]
    · rw [if_neg (fun hh => ha hh.2)]
      simp only [ha]
      constructor
      · intro hh; omega
      · intro hh; cases hh
theorem pick_right {o k b n : Int} (h : (pick p s o k b n).2 = 0) : checkState p s = 0 ∧ ∃ i j c : Nat, o = i ∧ k = j ∧ b = c ∧ Picks p s i j c n ∧ (pick p s o k b n).1 = pickS p s i j c n := by
  unfold pick at h ⊢
  by_cases h1 : checkState p s = 0
  · rw [if_neg (fun hn => hn h1)] at h ⊢
    by_cases h2 : keptAt s.holds o k b = 0
    · rw [if_pos h2] at h
      simp at h
    rw [if_neg h2] at h ⊢
    cases h3 : within n 0 (keptAt s.holds o k b)
    · rw [h3, if_pos (by rfl)] at h
      simp at h
    rw [h3, if_neg (by simp)] at h
    rw [if_neg (by simp)]
    have h3' := within_iff.1 h3
    by_cases h4 : 1048576 < intAt s.out (s.line o.toNat k.toNat).good.toNat + n
    · rw [if_pos h4] at h
      simp at h
    rw [if_neg h4]
    have hs := (right_of_check h1).sane
    obtain ⟨hk1, hm⟩ := keptAt_key (holdsOk_iff.1 hs.holds).1 (holdsOk_iff.1 hs.holds).2 h2
    have hin := holdIn_iff.1 (List.all_eq_true.1 (formed_iff.1 hs.form).2.2.1 _ hm)
    simp only at hin
    have hpos := kept_pos hs.holds o k b
    unfold keyOk at hk1
    obtain ⟨i, rfl⟩ : ∃ i : Nat, o = i := ⟨o.toNat, by omega⟩
    obtain ⟨j, rfl⟩ : ∃ j : Nat, k = j := ⟨k.toNat, by omega⟩
    obtain ⟨c, rfl⟩ : ∃ c : Nat, b = c := ⟨b.toNat, by omega⟩
    simp only [Int.toNat_natCast] at hin h4 ⊢
    exact ⟨h1, i, j, c, rfl, rfl, rfl, ⟨by omega, by omega, by omega, by omega, by omega, by omega, by omega⟩, rfl⟩
  · rw [if_pos h1] at h
    exact absurd h h1
end
section
variable {p : Plan} {s : State} {o k b n : Int}
theorem pick_bad (h : checkState p s ≠ 0) : pick p s o k b n = (dState, checkState p s) := by unfold pick; rw [if_pos h]
theorem pick_none (h : checkState p s = 0) (h2 : keptAt s.holds o k b = 0) : pick p s o k b n = (dState, 4) := by unfold pick; rw [if_neg (fun hn => hn h), if_pos h2]
theorem pick_range (h : checkState p s = 0) (h2 : keptAt s.holds o k b ≠ 0) (h3 : n < 0 ∨ keptAt s.holds o k b < n) : pick p s o k b n = (dState, 3) := by
  unfold pick
  rw [if_neg (fun hn => hn h), if_neg h2, within_false.2 h3]
  rfl
theorem pick_in (h : checkState p s = 0) (h2 : keptAt s.holds o k b ≠ 0) (h3 : 0 ≤ n ∧ n ≤ keptAt s.holds o k b) :
    ∃ i j c : Nat, o = i ∧ k = j ∧ b = c ∧ i < s.orders.length ∧ j < (s.order i).lines.length ∧ c < p.bins.length ∧ 1 ≤ keptAt s.holds i j c ∧ keptAt s.holds i j c ≤ 200 ∧
      pick p s o k b n = if 1048576 < intAt s.out (s.line i j).good.toNat + n then (dState, 2) else (pickS p s i j c n, 0) := by
  have hs := (right_of_check h).sane
  obtain ⟨hk1, hm⟩ := keptAt_key (holdsOk_iff.1 hs.holds).1 (holdsOk_iff.1 hs.holds).2 h2
  have hin := holdIn_iff.1 (List.all_eq_true.1 (formed_iff.1 hs.form).2.2.1 _ hm)
  simp only at hin
  have hr := keptAt_range (holdsOk_iff.1 hs.holds).1 (holdsOk_iff.1 hs.holds).2 o k b
  unfold keyOk at hk1
  obtain ⟨i, rfl⟩ : ∃ i : Nat, o = i := ⟨o.toNat, by omega⟩
  obtain ⟨j, rfl⟩ : ∃ j : Nat, k = j := ⟨k.toNat, by omega⟩
  obtain ⟨c, rfl⟩ : ∃ c : Nat, b = c := ⟨b.toNat, by omega⟩
  simp only [Int.toNat_natCast] at hin
  refine ⟨i, j, c, rfl, rfl, rfl, by omega, by omega, by omega, by omega, hr.2, ?_⟩
  unfold pick
  rw [if_neg (fun hn => hn h), if_neg h2, within_iff.2 h3, if_neg (by simp)]
  simp only [Int.toNat_natCast]
end
end Wh
namespace Wh
open Go Go.RowKit Go.Shelf Go.Proofs
attribute [local go_sem] run_indexAt_letter evL_tmp evL_const evL_func

def pk1 (s : State) (c g : Nat) (n : Int) : State := { s with on := setCell s.on c g (cell s.on c g - n) }
def pk2 (s : State) (c g : Nat) (n : Int) : State := { pk1 s c g n with out := s.out.set g (intAt s.out g + n) }
theorem pk_pre {s : State} {i j c g : Nat} {n : Int} (hg : (s.line i j).good.toNat = g) : ({ pk2 s c g n with holds := withHold s.holds ⟨i, j, c, 0⟩ } : State) = preS s i j c n := by subst hg; rfl

set_option maxHeartbeats 8000000 in
set_option maxRecDepth 100000 in
theorem rPickOf (w : World) (v vs : Value) (p : Plan) (s : State) (o k b n : Int) (hp : PlanV w w.heap.size v p) (hv : StateV w w.heap.size vs s) :
    Calls Try.prog 23 #[v, vs, .int .i64 o, .int .i64 k, .int .i64 b, .int .i64 n] w (ActPost (pick p s o k b n) w) := by
  obtain ⟨Ab, cb, As, cs, rfl, hP', hBn, hSz, hlb, hls⟩ := openPl hp
  obtain ⟨A0, c0, A1, c1, A2, c2, A3, c3, A4, c4, A5, c5, A6, c6, rfl, hV, hN, hO, hH, hM, hI, hU, hX, hl0, hl1, hl2, hl3, hl4, hl5, hl6⟩ := openOne hv
  go_enter Try.func23, Try.ntmps23
  go_wp2_with fail
  obtain ⟨W0, hW0, hb0, hsz0, hsz1, hsE, hK, hR⟩ := boxesAct w p s Ab cb As cs A0 c0 A1 c1 A2 c2 A3 c3 A4 c4 A5 c5 A6 c6
  rw [hW0]
  clear hW0
  obtain ⟨⟨y0, y1⟩, x0, x1, x2, x3, x4, x5, x6, hbz0, hbz1⟩ := hK.out W0 (Below.refl W0.heap.size W0)
  go_wp2_with fail
  clear y0 y1 x0 x1 x2 x3 x4 x5 x6 hbz0 hbz1
  refine (rCheckState _ _ _ p s (hP'.out _ hb0) (hV.out _ hb0)).mono ?_
  rintro e W1 ⟨rfl, h1⟩
  have hB1 := hb0.trans (h1.mono hb0.size)
  obtain ⟨⟨y0, y1⟩, x0, x1, x2, x3, x4, x5, x6, hbz0, hbz1⟩ := hK.out W1 (h1)
  by_cases hc : checkState p s = 0
  · have hc' := Lib.hid hc
    have hsn := Lib.hid (checkState_zero.1 hc).1
    rw [hc]
    clear hc
    go_wp2_with fail
    refine (rKeptAt _ _ s.holds o k b (hH.out _ hB1)).mono ?_
    rintro e w' ⟨rfl, rfl⟩
    by_cases hk0 : keptAt s.holds o k b = 0
    · have hfin := Lib.hid (pick_none (n := n) hc'.out hk0)
      rw [hk0]
      clear hk0
      have hbx9 := hR.out _ h1
      go_wp2_with (refine wpList_store_state rfl (.tmp 12) (.tmp 36) rfl rfl (w.heap.size + 1 + 1) nilSV nilSV hbx9 rfl rfl rfl (fun w9 hbox9 hg9 => ?_))
      obtain ⟨p0, p1, p2, p3, p4, p5, p6⟩ := BoxAt.cells hbox9
      have hfin9 : Below w.heap.size w w9 := Below.grown hB1 hg9 (Below.size hB1) (fun k hk => by injection hk with hk; omega)
      go_wp2_with fail
      exact bodyPost_ret (v := .tuple #[nilSV.val, .int .i64 4]) (by simp [results, Try.results23, go_sem, SV.val, p0, p1, p2, p3, p4, p5, p6]) rfl (actErr hfin.out hfin9)
    have hkq : (keptAt s.holds o k b == 0) = false := by simpa using hk0
    cases g1 : within n 0 (keptAt s.holds o k b)
    · have hfin := Lib.hid (pick_range hc'.out hk0 (by have := within_false.1 g1; omega))
      clear hk0
      go_wp2_with fail
      refine (withinAt g1 _).mono ?_
      rintro e w' ⟨rfl, rfl⟩
      clear g1
      have hbx9 := hR.out _ h1
      go_wp2_with (refine wpList_store_state rfl (.tmp 12) (.tmp 41) rfl rfl (w.heap.size + 1 + 1) nilSV nilSV hbx9 rfl rfl rfl (fun w9 hbox9 hg9 => ?_))
      obtain ⟨p0, p1, p2, p3, p4, p5, p6⟩ := BoxAt.cells hbox9
      have hfin9 : Below w.heap.size w w9 := Below.grown hB1 hg9 (Below.size hB1) (fun k hk => by injection hk with hk; omega)
      go_wp2_with fail
      exact bodyPost_ret (v := .tuple #[nilSV.val, .int .i64 3]) (by simp [results, Try.results23, go_sem, SV.val, p0, p1, p2, p3, p4, p5, p6]) rfl (actErr hfin.out hfin9)
    have g1' := within_iff.1 g1
    obtain ⟨i, j, c, rfl, rfl, rfl, hi, hj, hcb, hh1, hh2, hpk⟩ := pick_in hc'.out hk0 g1'
    have hpk' := Lib.hid hpk
    have hg0 := (hsn.out.line hi hj).1
    obtain ⟨g, hg⟩ : ∃ g : Nat, (s.line i j).good = (g : Int) := ⟨(s.line i j).good.toNat, by omega⟩
    have hgt : (s.line i j).good.toNat = g := by omega
    have hgp : g < p.sizes.length := by omega
    have hgo : g < s.out.length := by rw [hsn.out.out.1]; exact hgp
    have hgoi : (g : Int) < (s.out.length : Int) := by omega
    have o1 := hsn.out.out.2 hgp
    have hwo : IntKind.i64.wrap (intAt s.out g + n) = intAt s.out g + n := IntWalk.i64_in _ (by omega)
    have hi' : (i : Int) < s.orders.length := by omega
    have hj' : (j : Int) < ((s.order i).lines.length : Int) := by omega
    obtain ⟨Al, cl, ol, ll, d0, d1, hsl⟩ := (hO.out W1 hB1).order hi
    obtain ⟨ok2, l2, e0, e1, e2, e3⟩ := hsl.at_.line hj
    change W1.cell? _ = some (Value.int .i64 (s.line i j).good) at e0
    change W1.cell? _ = some (Value.slice Al (s.order i).lines.length cl) at d1
    rw [hg] at e0
    obtain ⟨oi, li, ri⟩ := (hU.out W1 hB1).at_.int (i := g) hgo
    rw [hgt] at hpk'
    clear hk0 hpk d0 e1 e2 e3
    by_cases hm : 1048576 < intAt s.out g + n
    · have hfin := Lib.hid (show pick p s i j c n = (dState, 2) by rw [hpk'.out, if_pos hm])
      go_wp2_with fail
      refine (withinAt g1 _).mono ?_
      rintro e w' ⟨rfl, rfl⟩
      clear g1 g1'
      have hbx9 := hR.out _ h1
      go_wp2_with (refine wpList_store_state rfl (.tmp 12) (.tmp 60) rfl rfl (w.heap.size + 1 + 1) nilSV nilSV hbx9 rfl rfl rfl (fun w9 hbox9 hg9 => ?_))
      obtain ⟨p0, p1, p2, p3, p4, p5, p6⟩ := BoxAt.cells hbox9
      have hfin9 : Below w.heap.size w w9 := Below.grown hB1 hg9 (Below.size hB1) (fun k hk => by injection hk with hk; omega)
      go_wp2_with fail
      exact bodyPost_ret (v := .tuple #[nilSV.val, .int .i64 2]) (by simp [results, Try.results23, go_sem, SV.val, p0, p1, p2, p3, p4, p5, p6]) rfl (actErr hfin.out hfin9)
    have hfin := Lib.hid (show pick p s i j c n = (pickS p s i j c n, 0) by rw [hpk'.out, if_neg hm])
    have hF := Lib.hid (show Picks p s i j c n from ⟨hi, hj, hcb, hh1, g1'.1, g1'.2, by rw [hgt]; omega⟩)
    go_wp2_with fail
    refine (withinAt g1 _).mono ?_
    rintro e w' ⟨rfl, rfl⟩
    clear g1
    go_wp2_with fail
    clear y0 y1 x0 x1 x2 x3 x4 x5 x6 hbz0 hbz1
    clear d1 e0 hsl oi li ri ok2 l2 ol ll hkq hpk' hm
    refine (rOwnState _ _ p s (hV.out _ hB1) hsn.out).mono ?_
    rintro e W5 ⟨_, rfl, ⟨V5, rfl, ho5⟩, h5⟩
    have hone6 := (ho5).one
    have hnb6 := newBox (W5)
    go_wp2_with (refine wpList_store_state rfl (.tmp 17) (.tmp 62) rfl rfl (World.heap (W5)).size nilSV V5 hnb6 rfl rfl hone6 (fun w6 hbox6 hg6 => ?_); refine Hid.out ?_)
    unfold Hid
    have hbb6 := newBelow hg6
    have hbl6 := hbox6.lt
    clear hone6 hnb6 hg6
    have hx6 := Lib.hid (Bx.of hbox6 (ho5.below hbb6))
    have h06 := h1.trans ((h5.trans (hbb6.mono h5.size)).mono h1.size)
    have hle : w.heap.size ≤ W1.heap.size := hB1.size
    have hle0 : W0.heap.size ≤ W1.heap.size := h1.size
    have hle5 : W1.heap.size ≤ W5.heap.size := h5.size
    clear hbox6 ho5 hbb6 h5 hbl6 h1 hB1
    generalize W1.heap.size = base at hx6 hle hle0 hle5
    generalize W5.heap.size = bx at hx6 hle5 ⊢
    have hco : c < s.on.length := by rw [hsn.out.onLen]; exact hcb
    have hci : (c : Int) < (s.on.length : Int) := by omega
    have hgr : g < (rowAt s.on c).length := by rw [hsn.out.rowLen hcb]; exact hgp
    have hgri : (g : Int) < ((rowAt s.on c).length : Int) := by omega
    have hcel := hsn.out.cell hcb hgp
    have hw1 : IntKind.i64.wrap (cell s.on c g - n) = cell s.on c g - n := IntWalk.i64_in _ (by omega)
    obtain ⟨gon, con, cur0, gr, cr, cur, eon, hgon, hbn0, r0, er, hgrb, hbr, rc⟩ := hx6.out.own.onAt hco hgr
    obtain ⟨c0, c1, c2, c3, c4, c5, c6⟩ := hx6.out.cells
    rw [eon] at c0
    have er' := Lib.hid er
    clear eon er hbn0 hbr
    go_wp2_with fail
    go_still_tail 17, (by kernel_rfl)
    change wpList _ _ _ _ _ w6.drew
    refine wp_st_on rfl (.tmp 79) (.tmp 78) rfl rfl (i := c) (g := g) (q := cell s.on c g - n) hx6.out.drew hco hgr er'.out rfl rfl (fun w7 hx7 hst7 => ?_)
    refine wpList_nil ?_
    have h07 := h06.drew.trans (hst7.below (B := W0.heap.size) (fun q hq => by omega) h06.drew.size)
    have hx7' := Lib.hid (show Bx w7 base bx 31 [] V5 (pk1 s c g n) from hx7)
    clear hx7 hst7 c0 c1 c2 c3 c4 c5 c6 r0 rc hw1 hx6 h06 er'
    obtain ⟨gu, cu, curu, eu, hgu, hbu, ru⟩ := OwnSt.intAtOwn hx7'.out.own.out (g := g) hgo
    change w7.cell? _ = some (.int .i64 (intAt s.out g)) at ru
    change V5.out = .slice _ s.out.length _ at eu
    obtain ⟨c0, c1, c2, c3, c4, c5, c6⟩ := hx7'.out.cells
    rw [eu] at c5
    have eu' := Lib.hid eu
    clear eu hbu
    go_wp2_with fail
    go_still_tail 11, (by kernel_rfl)
    change wpList _ _ _ _ _ w7.drew
    refine wp_st_out rfl (.tmp 90) (.tmp 89) rfl rfl (g := g) (q := intAt s.out g + n) hx7'.out.drew hgo eu'.out rfl rfl (fun w8 hx8 hst8 => ?_)
    refine wpList_nil ?_
    have h08 := h07.drew.trans (hst8.below (B := W0.heap.size) (fun q hq => by omega) h07.drew.size)
    have hx8' := Lib.hid (show Bx w8 base bx 31 [] V5 (pk2 s c g n) from hx8)
    clear hx8 hst8 c0 c1 c2 c3 c4 c5 c6 ru hx7' h07 eu'
    have hlen := ok_len72 hsn.out.holds
    have hs8 := Lib.hid (hx8'.out.own.holds.sl (by change s.holds.length ≤ _; omega))
    obtain ⟨c0, c1, c2, c3, c4, c5, c6⟩ := hx8'.out.cells
    go_wp2_with fail
    clear c0 c1 c2 c3 c4 c5 c6
    refine (rWith _ _ s.holds i j c 0 hs8.out hsn.out.holds (key_of hsn.out hi hj hcb)).mono ?_
    rintro e W9 ⟨u, rfl, hu, h9⟩
    obtain ⟨A7, c7, rfl⟩ := hu.isSlice
    have hble : base ≤ w8.heap.size := Nat.le_trans hle5 (Nat.le_of_lt hx8'.out.lt)
    have hu9 := Lib.hid (hu.from_ hble)
    have hx9 := Lib.hid (hx8'.out.below h9)
    have h09 := h08.trans (h9.mono h08.size)
    clear hu h9 hx8' h08 hs8
    go_wp2_with (refine wp_st_holds rfl (.tmp 97) (.tmp 96) rfl rfl A7 _ c7 _ hx9.out rfl rfl hu9.out (fun w10 hx10 hst10 => ?_); refine Hid.out ?_)
    unfold Hid
    have h010 := h09.trans (hst10.below (B := W0.heap.size) (fun q hq => by omega) h09.size)
    have hx10' := Lib.hid (show Bx w10 base bx 31 [] { V5 with holds := .slice A7 (withHold s.holds ⟨i, j, c, 0⟩).length c7 } (preS s i j c n) by rw [← pk_pre hgt]; exact hx10)
    clear hx10 hst10 hx9 hu9 h09
    generalize ({ V5 with holds := .slice A7 (withHold s.holds ⟨i, j, c, 0⟩).length c7 } : SV) = V9 at hx10'
    obtain ⟨go, co, curo, eo, hgo1, hblko, z0, z1⟩ := hx10'.out.own.orderAt (o := i) hi
    obtain ⟨gl, cl, curl, e1, hgl, hblk, f0, f1, f2, f3⟩ := hx10'.out.own.lineAt (o := i) (k := j) hi hj
    obtain ⟨c0, c1, c2, c3, c4, c5, c6⟩ := hx10'.out.cells
    change w10.cell? _ = some (.int .i64 (s.line i j).good) at f0
    change w10.cell? _ = some (.int .i64 (s.line i j).want) at f1
    change w10.cell? _ = some (.int .i64 (s.line i j).got) at f2
    change w10.cell? _ = some (.int .i64 (s.line i j).back) at f3
    change V9.orders = .slice _ s.orders.length _ at eo
    change V9.line i = .slice _ (s.order i).lines.length _ at e1
    rw [eo] at c1
    rw [e1] at z1
    have e1' := Lib.hid e1
    have hgll := hblk.lt
    have hgol := hblko.lt
    have hbxl : bx < w10.heap.size := hx10'.out.lt
    obtain ⟨gd, wt, gt, bk, hxl⟩ : ∃ gd wt gt bk, s.line i j = ⟨gd, wt, gt, bk⟩ := ⟨_, _, _, _, rfl⟩
    have hln := Lib.hid (hsn.out.line hi hj).2
    rw [hxl] at f0 f1 f2 f3 hg
    have hxl' := Lib.hid hxl
    simp only at hg f0 f1 f2 f3
    subst hg
    have hln1 : (1 ≤ wt ∧ wt ≤ 200) ∧ (0 ≤ gt ∧ gt ≤ wt) ∧ 0 ≤ bk ∧ bk ≤ wt := by have := hln.out; rwa [hxl] at this
    have hbl := Lib.hid (Blk.new w10 56 #[.int .i64 g, .int .i64 wt, .int .i64 gt, .int .i64 bk])
    have hxa := Lib.hid (hx10'.out.below ((Below.refl _ w10).alloc (Nat.le_refl _) (.cells #[.int .i64 g, .int .i64 wt, .int .i64 gt, .int .i64 bk] 56)))
    have h0a := h010.alloc h010.size (.cells #[.int .i64 g, .int .i64 wt, .int .i64 gt, .int .i64 bk] 56)
    have eo' := Lib.hid eo
    clear e1 eo hblk hblko hxl hln hx10' h010
    go_wp2_with fail
    clear c0 c1 c2 c3 c4 c5 c6 z0 z1 f0 f1 f2 f3 hgll hgol hbxl
    generalize w10.heap.size = wl at hbl ⊢
    generalize w10.alloc (.cells #[.int .i64 g, .int .i64 wt, .int .i64 gt, .int .i64 bk] 56) = w11 at hxa h0a hbl ⊢
    obtain ⟨_, _, _, z1⟩ := hxa.out.own.orderCells (o := i) hi eo'.out
    rw [e1'.out] at z1
    obtain ⟨_, c1, _⟩ := hxa.out.cells
    rw [eo'.out] at c1
    have l1 := hbl.out.cell (j := 1) rfl
    have l2 := hbl.out.cell (j := 2) rfl
    have l3 := hbl.out.cell (j := 3) rfl
    obtain ⟨held, hheld⟩ : ∃ x, keptAt s.holds i j c = x := ⟨_, rfl⟩
    rw [hheld] at hh1 hh2 g1'
    have hheld' := Lib.hid hheld
    have hw2 : IntKind.i64.wrap (gt + n) = gt + n := IntWalk.i64_in _ (by omega)
    have hw3 : IntKind.i64.wrap (bk + held) = bk + held := IntWalk.i64_in _ (by omega)
    have hw4 : IntKind.i64.wrap (bk + held - n) = bk + held - n := IntWalk.i64_in _ (by omega)
    have hw5 : IntKind.i64.wrap (held - n) = held - n := IntWalk.i64_in _ (by omega)
    rw [hheld]
    clear hheld
    go_wp2_with fail
    go_still_tail 22, (by kernel_rfl)
    change wpList _ _ _ _ _ w11.drew
    refine wp_put_line rfl (.tmp 128) (.tmp 127) rfl rfl (i := i) (k := j) (y := ⟨g, wt, gt + n, bk + held - n⟩) hxa.out.drew hi hj e1'.out rfl rfl (fun w12 hx12 hst12 => ?_)
    refine wpList_nil ?_
    have h012 := h0a.drew.trans (hst12.below (B := W0.heap.size) (fun q hq => by omega) h0a.drew.size)
    have hx12' := Lib.hid (show Bx w12 base bx 31 [] V9 (picked s i j c held n) by rw [picked_eq, hxl'.out]; exact hx12)
    clear hx12 hst12 hxa h0a hbl z1 c1 l1 l2 l3 hw2 hw3 hw4
    have hr12 := Lib.hid (show Right p (picked s i j c held n) by rw [← hheld'.out]; exact picked_right (right_of_check hc'.out) hF.out)
    have hm12 := Lib.hid (show May (picked s i j c held n) i j (held - n) by rw [← hheld'.out]; exact picked_may (right_of_check hc'.out) hF.out)
    have hB12 := hb0.trans (h012.mono hb0.size)
    obtain ⟨⟨y0, y1⟩, x0, x1, x2, x3, x4, x5, x6, hbz0, hbz1⟩ := hK.out w12 (h012)
    obtain ⟨c0, c1, c2, c3, c4, c5, c6⟩ := hx12'.out.cells
    have hbs : base ≤ w12.heap.size := Nat.le_trans hle5 (Nat.le_of_lt hx12'.out.lt)
    go_wp2_with fail
    clear y0 y1 x0 x1 x2 x3 x4 x5 x6 hbz0 hbz1
    clear c0 c1 c2 c3 c4 c5 c6 hw5
    refine (rTake _ _ p _ i j (held - n) c (hP'.out _ hB12) hr12.out hm12.out hx12'.out.own hbs).mono ?_
    rintro e W13 ⟨V', hsb, rfl, ho13, hst13⟩
    have hkp := keepSt_of hx12'.out.own (show i < (picked s i j c held n).orders.length by rw [picked_orders]; exact hi) hst13 hbs
    have hbox13 := Lib.hid (hkp.2.1 rfl _ _ hx12'.out.boxAt)
    have h013 := h012.trans (hkp.1.mono hle0)
    have ho13' := Lib.hid ho13
    clear hkp hst13 hsb hx12' hr12 hm12 h012 hB12 ho13
    go_wp2_with (refine wpList_store_state rfl (.tmp 17) (.tmp 139) rfl rfl bx V9 V' hbox13.out rfl rfl ho13'.out.one (fun w14 hbox14 hg14 => ?_); refine Hid.out ?_)
    unfold Hid
    have h014 := Below.grown h013 hg14 h013.size (fun k hk => by injection hk with hk; omega)
    have hx14 := Bx.of hbox14 (ho13'.out.keptBy hg14 hbox13.out.blk (by decide) (by decide) (by decide) (by decide) (by decide) (by decide))
    have hx14' := Lib.hid (show Bx w14 base bx 31 [] V' (pickT p s i j c n) by unfold pickT; rw [hheld'.out]; exact hx14)
    clear hx14 hbox14 hg14 h013 hbox13 ho13'
    have hTh := (pickT_held (right_of_check hc'.out) hF.out).1
    have hTi : i < (pickT p s i j c n).orders.length := by rw [hTh.orders, picked_orders]; exact hi
    have hTs := Lib.hid hTh.right.sane
    have hfin2 := Lib.hid (show pick p s i j c n = (close (pickT p s i j c n) i, 0) from hfin.out)
    clear hTh hF hfin
    generalize pickT p s i j c n = T at hx14' hTi hTs hfin2
    have l13 := hTs.out.lines3 hTi
    have hTi' : (i : Int) < (T.orders.length : Int) := by omega
    obtain ⟨go2, co2, _, eo2, hgo2, -⟩ := hx14'.out.own.orderAt hTi
    have eo2' := Lib.hid eo2
    obtain ⟨gl2, cl2, e2, hgl2⟩ := hx14'.out.own.lineSlice hTi (by omega)
    have e2' := Lib.hid e2
    clear eo2 e2
    go_wp2_with fail
    go_loopw [19, 20] (fun a k' wr => ∃ q : Nat, q ≤ (T.order i).lines.length ∧ k' = .int .i64 q ∧ a = .bool (gotTo (T.order i) q) ∧ Below w14.heap.size w14 wr) (fun _ k' _ => (T.order i).lines.length - (intOf k').toNat)
    case atStart => exact ⟨0, Nat.zero_le _, rfl, rfl, Below.refl _ _⟩
    case round =>
      obtain ⟨q, hq, rfl, rfl, h4⟩ := hrel
      have hx := Lib.hid (hx14'.out.below h4)
      obtain ⟨_, _, z0, z1⟩ := hx.out.own.orderCells hTi eo2'.out
      rw [e2'.out] at z1
      obtain ⟨c0, c1, c2, c3, c4, c5, c6⟩ := hx.out.cells
      rw [eo2'.out] at c1
      by_cases hq1 : q < (T.order i).lines.length
      · have hqi : (q : Int) < ((T.order i).lines.length : Int) := by omega
        obtain ⟨_, f0, f1, f2, f3⟩ := hx.out.own.lineCells hTi hq1 e2'.out
        have hsu := Lib.hid (gotTo_succ hq1)
        change Hid (gotTo (T.order i) (q + 1) = (gotTo (T.order i) q && decide ((T.line i q).got = (T.line i q).want))) at hsu
        cases hgq : gotTo (T.order i) q
        · have hn := Lib.hid (show gotTo (T.order i) (q + 1) = false by rw [hsu.out, hgq]; rfl)
          clear hgq hsu
          go_wp2_with fail
          go_quiet (fail)
          go_wp2_with fail
          go_roundw
          case rel => exact ⟨q + 1, by omega, by go_num, by rw [hn.out], below_drewN h4 _⟩
          case measure => simp [intOf]; omega
        · by_cases hgw : (T.line i q).got = (T.line i q).want
          · have hgb : ((T.line i q).got == (T.line i q).want) = true := by simpa using hgw
            have hn := Lib.hid (show gotTo (T.order i) (q + 1) = true by rw [hsu.out, hgq, hgw]; simp)
            clear hgq hsu hgw
            go_wp2_with fail
            go_quiet (fail)
            go_wp2_with fail
            go_roundw
            case rel => exact ⟨q + 1, by omega, by go_num, by rw [hn.out], below_drewN h4 _⟩
            case measure => simp [intOf]; omega
          · have hgb : ((T.line i q).got == (T.line i q).want) = false := by simpa using hgw
            have hn := Lib.hid (show gotTo (T.order i) (q + 1) = false by rw [hsu.out, hgq, decide_eq_false hgw]; rfl)
            clear hgq hsu hgw
            go_wp2_with fail
            go_quiet (fail)
            go_wp2_with fail
            go_roundw
            case rel => exact ⟨q + 1, by omega, by go_num, by rw [hn.out], below_drewN h4 _⟩
            case measure => simp [intOf]; omega
      · obtain rfl : q = (T.order i).lines.length := by omega
        rw [gotTo_all]
        have h0r := h014.trans (h4.mono h014.size)
        have hB0r := hb0.trans (h0r.mono hb0.size)
        cases hag : allGot (T.order i)
        · have hfin := Lib.hid (show pick p s i j c n = (T, 0) by rw [hfin2.out]; unfold close; rw [hag]; rfl)
          have hvv := eo2'.out
          clear hag hfin2 z0 c0 c1 c2 c3 c4 c5 c6 hx14' eo2' e2'
          obtain ⟨a0, a1, a2, a3, a4, a5, a6, a7, a8⟩ := V'
          obtain rfl : a1 = .slice (some ⟨go2, 0, none⟩) T.orders.length co2 := hvv
          have hbx9 := hR.out _ h0r
          obtain ⟨b0, b1, b2, b3, b4, b5, b6⟩ := BoxAt.cells hx.out.boxAt
          have hone9 := OwnSt.one hx.out.own
          go_wp2_with (refine wpList_store_state rfl (.tmp 12) (.tmp 182) rfl rfl (w.heap.size + 1 + 1) nilSV (⟨a0, .slice (some ⟨go2, 0, none⟩) T.orders.length co2, a2, a3, a4, a5, a6, a7, a8⟩ : SV) hbx9 rfl rfl hone9 (fun w9 hbox9 hg9 => ?_))
          have hO9 := OwnSt.keptBy hx.out.own hg9 hbx9 (by decide) (by decide) (by decide) (by decide) (by decide) (by decide)
          obtain ⟨p0, p1, p2, p3, p4, p5, p6⟩ := BoxAt.cells hbox9
          have hfin9 : Below w.heap.size w w9 := Below.grown hB0r hg9 (Below.size hB0r) (fun k hk => by injection hk with hk; omega)
          clear b0 b1 b2 b3 b4 b5 b6
          go_wp2_with fail
          exact bodyPost_ret (v := .tuple #[SV.val (⟨a0, .slice (some ⟨go2, 0, none⟩) T.orders.length co2, a2, a3, a4, a5, a6, a7, a8⟩ : SV), .int .i64 0]) (by simp [results, Try.results23, go_sem, SV.val, p0, p1, p2, p3, p4, p5, p6]) rfl (actOk hfin.out (hO9.from_ hle) hfin9)
        · have hfin := Lib.hid (show pick p s i j c n = ({ T with orders := T.orders.set i { T.order i with kind := 2 } }, 0) by rw [hfin2.out]; unfold close; rw [hag]; rfl)
          clear hag hfin2 c0 c2 c3 c4 c5 c6
          go_wp2_with (refine wp_st_kind rfl (.tmp 181) (.const (.int .i64 2)) rfl rfl (i := i) (q := 2) hx.out hTi eo2'.out rfl rfl (fun w15 hx15 hst15 => ?_); refine Hid.out ?_)
          unfold Hid
          have h015 := h0r.trans (hst15.below (B := W0.heap.size) (fun q hq => by omega) h0r.size)
          have hB15 := hb0.trans (h015.mono hb0.size)
          have hx15' := Lib.hid hx15
          clear hx15 hst15 z0 z1 c1
          have hbx9 := hR.out _ h015
          obtain ⟨b0, b1, b2, b3, b4, b5, b6⟩ := BoxAt.cells hx15'.out.boxAt
          have hone9 := OwnSt.one hx15'.out.own
          go_wp2_with (refine wpList_store_state rfl (.tmp 12) (.tmp 182) rfl rfl (w.heap.size + 1 + 1) nilSV V' hbx9 rfl rfl hone9 (fun w9 hbox9 hg9 => ?_))
          have hO9 := OwnSt.keptBy hx15'.out.own hg9 hbx9 (by decide) (by decide) (by decide) (by decide) (by decide) (by decide)
          obtain ⟨p0, p1, p2, p3, p4, p5, p6⟩ := BoxAt.cells hbox9
          have hfin9 : Below w.heap.size w w9 := Below.grown hB15 hg9 (Below.size hB15) (fun k hk => by injection hk with hk; omega)
          clear b0 b1 b2 b3 b4 b5 b6
          go_wp2_with fail
          exact bodyPost_ret (v := .tuple #[SV.val V', .int .i64 0]) (by simp [results, Try.results23, go_sem, SV.val, p0, p1, p2, p3, p4, p5, p6]) rfl (actOk hfin.out (hO9.from_ hle) hfin9)
  · have hne : (checkState p s != 0) = true := by simpa using hc
    have hfin := Lib.hid (pick_bad (o := o) (k := k) (b := b) (n := n) hc)
    clear hc
    have hbx9 := hR.out _ h1
    go_wp2_with (refine wpList_store_state rfl (.tmp 12) (.tmp 26) rfl rfl (w.heap.size + 1 + 1) nilSV nilSV hbx9 rfl rfl rfl (fun w9 hbox9 hg9 => ?_))
    obtain ⟨p0, p1, p2, p3, p4, p5, p6⟩ := BoxAt.cells hbox9
    have hfin9 : Below w.heap.size w w9 := Below.grown hB1 hg9 (Below.size hB1) (fun k hk => by injection hk with hk; omega)
    go_wp2_with fail
    exact bodyPost_ret (v := .tuple #[nilSV.val, .int .i64 (checkState p s)]) (by simp [results, Try.results23, go_sem, SV.val, p0, p1, p2, p3, p4, p5, p6]) rfl (actErr hfin.out hfin9)
end Wh
