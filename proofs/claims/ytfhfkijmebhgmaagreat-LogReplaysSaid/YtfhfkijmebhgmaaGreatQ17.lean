/- Texts of the claim, joined: PlainP, PlainK, BookA, PlainQ, PlainS. -/
import Derived.Test.YtfhfkijmebhgmaaGreatQ16
import Derived.Test.YtfhfkijmebhgmaaGreatQ14
import Derived.Test.YtfhfkijmebhgmaaGreatQ10
import Derived.Test.YtfhfkijmebhgmaaGreatQ09
import Derived.Test.YtfhfkijmebhgmaaGreatQ15
namespace Wh

/-- t is what comes of s by holding for the lines of S, but not in bin b. -/
structure Took (p : Plan) (b : Nat) (S : Nat → Nat → Prop) (s t : State) : Prop where
  right : Right p t
  on : t.on = s.on
  moves : t.moves = s.moves
  inn : t.inn = s.inn
  out : t.out = s.out
  fixed : t.fixed = s.fixed
  orders : t.orders.length = s.orders.length
  kind : ∀ o, (t.order o).kind = (s.order o).kind
  lines : ∀ o, (t.order o).lines.length = (s.order o).lines.length
  line : ∀ o k, (t.line o k).good = (s.line o k).good ∧ (t.line o k).want = (s.line o k).want ∧ (t.line o k).got = (s.line o k).got
  bnd : ∀ g : Int, bound t b g = bound s b g
  back : ∀ o k, ¬ S o k → (t.line o k).back = (s.line o k).back
namespace Took
variable {p : Plan} {b : Nat} {S S' : Nat → Nat → Prop} {s t u : State}
theorem refl (h : Right p s) : Took p b S s s := ⟨h, rfl, rfl, rfl, rfl, rfl, rfl, fun _ => rfl, fun _ => rfl, fun _ _ => ⟨rfl, rfl, rfl⟩, fun _ => rfl, fun _ _ _ => rfl⟩
theorem mono (h : Took p b S s t) (hS : ∀ o k, S o k → S' o k) : Took p b S' s t := { h with back := fun o k hn => h.back o k fun hs => hn (hS o k hs) }
theorem trans (h : Took p b S s t) (h' : Took p b S' t u) : Took p b (fun o k => S o k ∨ S' o k) s u := by
  refine ⟨h'.right, h'.on.trans h.on, h'.moves.trans h.moves, h'.inn.trans h.inn, h'.out.trans h.out, h'.fixed.trans h.fixed, h'.orders.trans h.orders, fun o => (h'.kind o).trans (h.kind o), fun o => (h'.lines o).trans (h.lines o), fun o k => ?_, fun g => (h'.bnd g).trans (h.bnd g), fun o k hn => ?_⟩
  · obtain ⟨a1, a2, a3⟩ := h.line o k
    obtain ⟨b1, b2, b3⟩ := h'.line o k
    exact ⟨b1.trans a1, b2.trans a2, b3.trans a3⟩
  · exact (h'.back o k fun hs => hn (.inr hs)).trans (h.back o k fun hs => hn (.inl hs))
theorem one {o k : Nat} {n : Int} (h : Right p s) (hm : n = 0 ∨ May s o k n) : Took p b (fun o' k' => o' = o ∧ k' = k) s (takeS p s o k n b).1 := by
  rcases hm with rfl | hm
  · have : takeS p s o k 0 b = (s, 0) := takeGo_zero (by omega)
    rw [this]
    exact refl h
  · obtain ⟨h1, _, _⟩ := takeS_held (but := b) h hm
    exact ⟨h1.right, h1.on, h1.moves, h1.inn, h1.out, h1.fixed, h1.orders, h1.kind, h1.lines, h1.line, fun g => takeS_but h hm g, fun o' k' hn => by rw [h1.back, if_neg hn, Int.sub_zero]⟩
theorem may (h : Took p b S s t) {o k : Nat} {n : Int} (hn : ¬ S o k) (hm : n = 0 ∨ May s o k n) : n = 0 ∨ May t o k n := by
  rcases hm with hm | hm
  · exact .inl hm
  · exact .inr ⟨by rw [h.orders]; exact hm.ho, by rw [h.lines]; exact hm.hk, by rw [h.kind]; exact hm.kind, hm.n0, by rw [h.back o k hn]; exact hm.back⟩
theorem check (h : Took p b S s t) (hs : checkState p s = 0) : checkState p t = 0 := by
  refine check_iff.2 ⟨h.right, fun o ho => ?_⟩
  rw [h.orders] at ho
  have := (check_iff.1 hs).2 o ho
  rw [h.kind]
  rintro ⟨h1, h2⟩
  refine this ⟨h1, allGot_iff.2 fun k hk => ?_⟩
  have h3 := allGot_iff.1 h2 k (by rw [h.lines]; exact hk)
  have h4 := h.line o k
  unfold State.line at h4
  rw [h4.2.1, h4.2.2] at h3
  exact h3
end Took

def cutLinesT (p : Plan) (o : Nat) (b : Int) (n : Nat → Int) : Nat → State → State
  | 0, s => s
  | k + 1, s => (takeS p (cutLinesT p o b n k s) o k (n k) b).1
def cutOrdersT (p : Plan) (b : Int) (n : Nat → Nat → Int) : Nat → State → State
  | 0, s => s
  | o + 1, s => cutLinesT p o b (n o) ((cutOrdersT p b n o s).order o).lines.length (cutOrdersT p b n o s)
def countS (p : Plan) (s : State) (b g : Nat) (seen : Int) : State :=
  cutOrdersT p b (fun o k => cutN s b g (over s b g seen) o k) s.orders.length (cutS s b g seen (over s b g seen))
def count (p : Plan) (s : State) (b g seen : Int) : State × Int :=
  if checkState p s ≠ 0 then (dState, checkState p s)
  else if !(isBin p b && isGood p g && within seen 0 200) then (dState, 3)
  else if !(within (intAt s.fixed g.toNat + seen - cell s.on b.toNat g.toNat) (-1048576) 1048576) then (dState, 2)
  else (countS p s b.toNat g.toNat seen, 0)

section
variable {p : Plan} {s : State} {b g : Nat} {seen v : Int} {n : Nat → Nat → Int}
theorem cutLinesT_took {o : Nat} {n : Nat → Int} (h : Right p s) (hn : ∀ k, k < (s.order o).lines.length → n k = 0 ∨ May s o k (n k)) : ∀ m, m ≤ (s.order o).lines.length → Took p b (fun o' k' => o' = o ∧ k' < m) s (cutLinesT p o b n m s)
  | 0, _ => Took.refl h
  | m + 1, hm => by
    have h1 := cutLinesT_took h hn m (by omega)
    have h2 := Took.one (b := b) h1.right (h1.may (by omega) (hn m (by omega)))
    exact (h1.trans h2).mono fun o' k' hs => by omega
theorem cutOrdersT_took (h : Right p s) (hn : ∀ o k, o < s.orders.length → k < (s.order o).lines.length → n o k = 0 ∨ May s o k (n o k)) : ∀ m, m ≤ s.orders.length → Took p b (fun o' _ => o' < m) s (cutOrdersT p b n m s)
  | 0, _ => Took.refl h
  | m + 1, hm => by
    have h1 := cutOrdersT_took h hn m (by omega)
    have h2 := cutLinesT_took (b := b) (o := m) (n := n m) h1.right (fun k hk => h1.may (by omega) (hn m k (by omega) (by rw [← h1.lines]; exact hk))) _ (Nat.le_refl _)
    exact (h1.trans h2).mono fun o' k' hs => by omega
theorem cut_ready (h : Right p s) {o k : Nat} (ho : o < s.orders.length) (hk : k < (s.order o).lines.length) : cutN s b g v o k = 0 ∨ May (cutS s b g seen v) o k (cutN s b g v o k) := by
  have h1 := cutN_range h.sane b g v o k
  by_cases hz : cutN s b g v o k = 0
  · exact .inl hz
  · have h2 := h.lineSum ho hk
    have h3 := h.sane.line ho hk
    have h4 := h.sane.kind ho
    have h5 : (s.order o).kind ≠ 0 := fun e => by rw [if_pos e] at h2; omega
    have h6 : (s.order o).kind ≠ 2 := fun e => h2.2 ⟨e, by omega⟩
    refine .inr ⟨by rw [cut_len]; exact ho, by rw [cut_lines o ho]; exact hk, by rw [cut_kind o ho]; omega, h1.1, ?_⟩
    rw [cut_line ho hk]
    simp only
    omega
theorem count_took (hc : checkState p s = 0) (f : Counts p s b g seen) : Took p b (fun o _ => o < s.orders.length) (cutS s b g seen (over s b g seen)) (countS p s b g seen) := by
  have h := right_of_check hc
  have hcut := right_of_check (cut_check hc f)
  exact cutOrdersT_took hcut (fun o k ho hk => by
    rw [cut_len] at ho
    rw [cut_lines o ho] at hk
    exact cut_ready h ho hk) _ (by rw [cut_len]; exact Nat.le_refl _)
theorem count_check (hc : checkState p s = 0) (f : Counts p s b g seen) : checkState p (countS p s b g seen) = 0 := (count_took hc f).check (cut_check hc f)
theorem count_len (hc : checkState p s = 0) (f : Counts p s b g seen) : (countS p s b g seen).orders.length = s.orders.length := by rw [(count_took hc f).orders, cut_len]
theorem count_lines (hc : checkState p s = 0) (f : Counts p s b g seen) {o : Nat} (ho : o < s.orders.length) : ((countS p s b g seen).order o).lines.length = (s.order o).lines.length := by rw [(count_took hc f).lines, cut_lines o ho]
theorem count_right {b g : Int} (h : (count p s b g seen).2 = 0) : checkState p s = 0 ∧ ∃ i j : Nat, b = i ∧ g = j ∧ Counts p s i j seen ∧ (count p s b g seen).1 = countS p s i j seen := by
  unfold count at h ⊢
  by_cases h1 : checkState p s = 0
  · rw [if_neg (fun hn => hn h1)] at h ⊢
    by_cases h2 : (isBin p b && isGood p g && within seen 0 200) = true
    · rw [if_neg (by rw [h2]; simp)] at h ⊢
      by_cases h3 : within (intAt s.fixed g.toNat + seen - cell s.on b.toNat g.toNat) (-1048576) 1048576 = true
      · rw [if_neg (by rw [h3]; simp)]
        simp only [Bool.and_eq_true] at h2
        obtain ⟨i, rfl, hi⟩ := bin_nat h2.1.1
        obtain ⟨j, rfl, hj⟩ := good_nat h2.1.2
        have h4 := within_iff.1 h2.2
        have h5 := within_iff.1 h3
        simp only [Int.toNat_natCast] at h5 ⊢
        exact ⟨h1, i, j, rfl, rfl, ⟨hi, hj, h4.1, h4.2, h5.1, h5.2⟩, rfl⟩
      · rw [if_pos (by simpa using h3)] at h
        simp at h
    · rw [Bool.not_eq_true] at h2
      rw [h2, if_pos (by rfl)] at h
      simp at h
  · rw [if_pos h1] at h
    exact absurd h h1
end
section
variable {p : Plan} {s : State} {b g n : Int}
theorem count_bad (h : checkState p s ≠ 0) : count p s b g n = (dState, checkState p s) := by unfold count; rw [if_pos h]
theorem count_range (h : checkState p s = 0) (h2 : (isBin p b && isGood p g && within n 0 200) = false) : count p s b g n = (dState, 3) := by
  unfold count
  rw [if_neg (fun hn => hn h), h2]
  rfl
theorem count_many {i j : Nat} (h : checkState p s = 0) (hi : i < p.bins.length) (hj : j < p.sizes.length) (hn : 0 ≤ n ∧ n ≤ 200) (h2 : intAt s.fixed j + n - cell s.on i j < -1048576 ∨ 1048576 < intAt s.fixed j + n - cell s.on i j) : count p s i j n = (dState, 2) := by
  have h3 : (isBin p (i : Int) && isGood p (j : Int) && within n 0 200) = true := by rw [isBin_iff.2 (by omega), isGood_iff.2 (by omega), within_iff.2 hn]; rfl
  unfold count
  rw [if_neg (fun hn => hn h), h3, if_neg (by simp)]
  simp only [Int.toNat_natCast]
  rw [within_false.2 h2]
  rfl
theorem count_ok {i j : Nat} (h : checkState p s = 0) (f : Counts p s i j n) : count p s i j n = (countS p s i j n, 0) := by
  have h1 := f.hb
  have h2 := f.hg
  have h3 : (isBin p (i : Int) && isGood p (j : Int) && within n 0 200) = true := by rw [isBin_iff.2 (by omega), isGood_iff.2 (by omega), within_iff.2 ⟨f.s0, f.s1⟩]; rfl
  unfold count
  rw [if_neg (fun hn => hn h), h3, if_neg (by simp)]
  simp only [Int.toNat_natCast]
  rw [within_iff.2 ⟨f.f0, f.f1⟩]
  rfl
end
end Wh
namespace Wh

/-- t is what comes of s by holding, once each, for the lines of S. -/
structure Taken (p : Plan) (S : Nat → Nat → Prop) (s t : State) : Prop where
  right : Right p t
  on : t.on = s.on
  moves : t.moves = s.moves
  inn : t.inn = s.inn
  out : t.out = s.out
  fixed : t.fixed = s.fixed
  orders : t.orders.length = s.orders.length
  kind : ∀ o, (t.order o).kind = (s.order o).kind
  lines : ∀ o, (t.order o).lines.length = (s.order o).lines.length
  line : ∀ o k, (t.line o k).good = (s.line o k).good ∧ (t.line o k).want = (s.line o k).want ∧ (t.line o k).got = (s.line o k).got
  less : ∀ b g : Int, avail t b g ≤ avail s b g
  back : ∀ o k, ¬ S o k → (t.line o k).back = (s.line o k).back
  kept : ∀ o k : Nat, ¬ S o k → Wh.kept t.holds o k = Wh.kept s.holds o k
  done : ∀ o k, S o k → o < s.orders.length → k < (s.order o).lines.length → (s.order o).kind = 1 → 0 < (t.line o k).back → ∀ b, b < p.bins.length → avail t b (s.line o k).good = 0
  none : ∀ o k, S o k → o < s.orders.length → k < (s.order o).lines.length → (∀ b : Nat, b < p.bins.length → avail s b (s.line o k).good = 0) → Wh.kept t.holds o k = Wh.kept s.holds o k
theorem line_avail {p : Plan} {s : State} (h : Right p s) {o k b : Nat} (ho : o < s.orders.length) (hk : k < (s.order o).lines.length) (hb : b < p.bins.length) : 0 ≤ avail s b (s.line o k).good := by
  have h1 := (h.sane.line ho hk).1
  obtain ⟨g, hg⟩ : ∃ g : Nat, (s.line o k).good = g := ⟨(s.line o k).good.toNat, by omega⟩
  rw [hg] at h1 ⊢
  exact (h.avail_range hb (by omega)).1
namespace Taken
variable {p : Plan} {S S' : Nat → Nat → Prop} {s t u : State}
theorem same (h : Right p s) (hS : ∀ o k, S o k → o < s.orders.length → k < (s.order o).lines.length → (s.order o).kind ≠ 1) : Taken p S s s :=
  ⟨h, rfl, rfl, rfl, rfl, rfl, rfl, fun _ => rfl, fun _ => rfl, fun _ _ => ⟨rfl, rfl, rfl⟩, fun _ _ => Int.le_refl _, fun _ _ _ => rfl, fun _ _ _ => rfl, fun o k hs ho hk hkd => absurd hkd (hS o k hs ho hk), fun _ _ _ _ _ _ => rfl⟩
theorem mono (h : Taken p S s t) (h1 : ∀ o k, S o k → S' o k) (h2 : ∀ o k, o < s.orders.length → k < (s.order o).lines.length → S' o k → S o k) : Taken p S' s t :=
  { h with back := fun o k hn => h.back o k fun hs => hn (h1 o k hs), kept := fun o k hn => h.kept o k fun hs => hn (h1 o k hs), done := fun o k hs ho hk => h.done o k (h2 o k ho hk hs) ho hk, none := fun o k hs ho hk => h.none o k (h2 o k ho hk hs) ho hk }
theorem trans (h : Taken p S s t) (h' : Taken p S' t u) (hd : ∀ o k, S o k → S' o k → False) : Taken p (fun o k => S o k ∨ S' o k) s u := by
  refine ⟨h'.right, h'.on.trans h.on, h'.moves.trans h.moves, h'.inn.trans h.inn, h'.out.trans h.out, h'.fixed.trans h.fixed, h'.orders.trans h.orders, fun o => (h'.kind o).trans (h.kind o), fun o => (h'.lines o).trans (h.lines o), fun o k => ?_,
    fun b g => Int.le_trans (h'.less b g) (h.less b g), fun o k hn => ?_, fun o k hn => ?_, fun o k hs ho hk hkd hb b hbn => ?_, fun o k hs ho hk hz => ?_⟩
  · obtain ⟨a1, a2, a3⟩ := h.line o k
    obtain ⟨b1, b2, b3⟩ := h'.line o k
    exact ⟨b1.trans a1, b2.trans a2, b3.trans a3⟩
  · exact (h'.back o k fun hs => hn (.inr hs)).trans (h.back o k fun hs => hn (.inl hs))
  · exact (h'.kept o k fun hs => hn (.inr hs)).trans (h.kept o k fun hs => hn (.inl hs))
  · have ho' : o < t.orders.length := by rw [h.orders]; exact ho
    have hk' : k < (t.order o).lines.length := by rw [h.lines]; exact hk
    rcases hs with hs | hs
    · rw [h'.back o k (hd o k hs)] at hb
      have h1 := h.done o k hs ho hk hkd hb b hbn
      have h2 := h'.less b (s.line o k).good
      have h3 := line_avail h'.right (o := o) (k := k) (b := b) (by rw [h'.orders]; exact ho') (by rw [h'.lines]; exact hk') hbn
      rw [(h'.line o k).1, (h.line o k).1] at h3
      omega
    · have := h'.done o k hs ho' hk' (by rw [h.kind]; exact hkd) hb b hbn
      rwa [(h.line o k).1] at this
  · have ho' : o < t.orders.length := by rw [h.orders]; exact ho
    have hk' : k < (t.order o).lines.length := by rw [h.lines]; exact hk
    rcases hs with hs | hs
    · exact (h'.kept o k (hd o k hs)).trans (h.none o k hs ho hk hz)
    · rw [h'.none o k hs ho' hk' (fun b hbn => by
        have h1 := hz b hbn
        have h2 := h.less b (s.line o k).good
        have h3 := line_avail h.right ho' hk' hbn
        rw [(h.line o k).1] at h3 ⊢
        omega)]
      exact h.kept o k fun hs' => hd o k hs' hs
end Taken

theorem takeGo_nothing {o k : Nat} {but : Int} : ∀ {bs : List Nat} {s : State} {n : Int}, (∀ b ∈ bs, avail s b (s.line o k).good = 0) → takeGo o k but bs s n = (s, n)
  | [], _, _, _ => rfl
  | b :: r, s, n, h => by
    have := h b (List.mem_cons_self ..)
    rw [takeGo_skip (.inr (by omega)), takeGo_nothing fun x hx => h x (List.mem_cons_of_mem _ hx)]
theorem sane_back {p : Plan} {s : State} (h : Right p s) {o k : Nat} (ho : o < s.orders.length) (hk : k < (s.order o).lines.length) (hkd : (s.order o).kind = 1) : May s o k (s.line o k).back :=
  ⟨ho, hk, hkd, (h.sane.line ho hk).2.2.2.1, Int.le_refl _⟩
theorem takeAll_taken {p : Plan} {s : State} {o k : Nat} (h : Right p s) (ho : o < s.orders.length) (hk : k < (s.order o).lines.length) (hkd : (s.order o).kind = 1) : Taken p (fun o' k' => o' = o ∧ k' = k) s (takeAll p s o k) := by
  have hm := sane_back h ho hk hkd
  obtain ⟨h1, h2, h3⟩ := takeS_held (but := -1) h hm
  change Held p s (takeAll p s o k) o k _ at h1
  have hbk : ((takeAll p s o k).line o k).back = (takeS p s o k (s.line o k).back (-1)).2 := by
    rw [h1.back, if_pos ⟨rfl, rfl⟩]
    omega
  refine ⟨h1.right, h1.on, h1.moves, h1.inn, h1.out, h1.fixed, h1.orders, h1.kind, h1.lines, h1.line, h1.avail_le, fun o' k' hn => ?_, fun o' k' hn => ?_, fun o' k' hs ho' hk' hkd' hb b hbn => ?_, fun o' k' hs ho' hk' hz => ?_⟩
  · rw [h1.back, if_neg hn, Int.sub_zero]
  · rw [h1.kept, if_neg (by omega), Int.add_zero]
  · obtain ⟨rfl, rfl⟩ := hs
    exact takeS_left (but := -1) h hm (by rw [← hbk]; exact hb) hbn (by omega)
  · obtain ⟨rfl, rfl⟩ := hs
    have : takeAll p s o' k' = s := by
      unfold takeAll takeS
      rw [takeGo_nothing (fun b hb => hz b (way_bins p b hb))]
    rw [this]
theorem takeLines_taken {p : Plan} {s : State} {o : Nat} (h : Right p s) (ho : o < s.orders.length) (hkd : (s.order o).kind = 1) : ∀ n, n ≤ (s.order o).lines.length → Taken p (fun o' k' => o' = o ∧ k' < n) s (takeLines p o n s)
  | 0, _ => (Taken.same (S := fun o' k' => o' = o ∧ k' < 0) h fun _ _ hs => by omega)
  | n + 1, hn => by
    have h1 := takeLines_taken h ho hkd n (by omega)
    have h2 := takeAll_taken h1.right (o := o) (k := n) (by rw [h1.orders]; exact ho) (by rw [h1.lines]; omega) (by rw [h1.kind]; exact hkd)
    exact (h1.trans h2 (fun o' k' hs hs' => by omega)).mono (fun o' k' hs => by omega) (fun o' k' _ _ hs => by omega)
theorem takeOrder_taken {p : Plan} {s : State} {o : Nat} (h : Right p s) (ho : o < s.orders.length) : Taken p (fun o' _ => o' = o) s (takeOrder p s o) := by
  unfold takeOrder
  split
  · rename_i hkd
    exact (takeLines_taken h ho hkd _ (Nat.le_refl _)).mono (fun o' k' hs => hs.1) (fun o' k' _ hk hs => ⟨hs, by rw [hs] at hk; exact hk⟩)
  · rename_i hkd
    exact Taken.same h fun o' k' hs _ _ => by rw [hs]; exact hkd
theorem takeOrders_taken {p : Plan} {s : State} (h : Right p s) : ∀ n, n ≤ s.orders.length → Taken p (fun o _ => o < n) s (takeOrders p n s)
  | 0, _ => (Taken.same (S := fun o _ => o < 0) h fun _ _ hs => by omega)
  | n + 1, hn => by
    have h1 := takeOrders_taken h n (by omega)
    have h2 := takeOrder_taken h1.right (o := n) (by rw [h1.orders]; omega)
    exact (h1.trans h2 (fun o' k' hs hs' => by omega)).mono (fun o' k' hs => by omega) (fun o' k' _ _ hs => by omega)

-- orders that are freed
def freedS (s : State) : State := { s with orders := s.orders.map freed }
theorem freed_order (s : State) (o : Nat) (ho : o < s.orders.length) : (freedS s).order o = freed (s.order o) := by
  unfold State.order orderAt freedS
  simp [ho]
theorem freed_line (s : State) {o k : Nat} (ho : o < s.orders.length) (hk : k < (s.order o).lines.length) : (freedS s).line o k = if (s.order o).kind = 0 then { s.line o k with back := (s.line o k).want } else s.line o k := by
  unfold State.line
  rw [freed_order s o ho]
  unfold freed
  split
  · rw [lineAt_eq (by simpa using hk), lineAt_eq hk]
    simp
  · rfl
theorem freed_lines (s : State) {o : Nat} (ho : o < s.orders.length) : ((freedS s).order o).lines.length = (s.order o).lines.length := by
  rw [freed_order s o ho]
  unfold freed
  split
  · simp
  · rfl
theorem freed_kind (s : State) {o : Nat} (ho : o < s.orders.length) : ((freedS s).order o).kind = if (s.order o).kind = 0 then 1 else (s.order o).kind := by
  rw [freed_order s o ho]
  unfold freed
  split <;> rfl
theorem freed_len (s : State) : (freedS s).orders.length = s.orders.length := by simp [freedS]
theorem freed_right {p : Plan} {s : State} (h : checkState p s = 0) : checkState p (freedS s) = 0 := by
  obtain ⟨hr, hgot⟩ := check_iff.1 h
  have hs := hr.sane
  have hbound : ∀ b g : Int, bound (freedS s) b g = bound s b g := fun b g => by
    unfold bound
    have : heldIn (freedS s) b g = heldIn s b g := heldIn_mem (s := s) (t := freedS s) rfl (fun x hx => by
      obtain ⟨i, hi, rfl⟩ := List.getElem_of_mem hx
      have := hs.holdAt hi
      rw [hold_get hi] at this
      rw [freed_line s (by omega) (by omega)]
      split <;> rfl) b g
    rw [this]
    rfl
  refine check_iff.2 ⟨Right.of (Sane.of hs.shelf (by rw [freed_len]; exact hs.orders4) hs.moves8 (fun o ho => ?_) (fun o k ho hk => ?_) hs.holds (fun x hx => ?_) (fun x hx => List.all_eq_true.1 (formed_iff.1 hs.form).2.2.2.1 x hx)
    (formed_iff.1 hs.form).2.2.2.2.1 (formed_iff.1 hs.form).2.2.2.2.2.1 (formed_iff.1 hs.form).2.2.2.2.2.2) (fun g hg => hr.sum hg) (fun b g hb hg => by rw [hbound]; exact hr.bnd hb hg) (fun o k ho hk => ?_), fun o ho hh => ?_⟩
  · rw [freed_len] at ho
    rw [freed_lines s ho, freed_kind s ho]
    refine ⟨hs.lines3 ho, ?_⟩
    have := hs.kind ho
    split <;> omega
  · rw [freed_len] at ho
    rw [freed_lines s ho] at hk
    rw [freed_line s ho hk]
    have h1 := hs.line ho hk
    split
    · exact lineOk_iff.2 ⟨h1.1, h1.2.1, h1.2.2.1, by simp only; omega⟩
    · exact lineOk_iff.2 h1
  · have h1 := holdIn_iff.1 (List.all_eq_true.1 (formed_iff.1 hs.form).2.2.1 x hx)
    have hx' : x ∈ s.holds := hx
    obtain ⟨i, hi, rfl⟩ := List.getElem_of_mem hx'
    have := (hs.holdAt hi).1
    rw [hold_get hi] at this
    refine holdIn_iff.2 ⟨by rw [freed_len]; exact h1.1, ?_, h1.2.2⟩
    rw [freed_lines s (by omega)]
    exact h1.2.1
  · rw [freed_len] at ho
    rw [freed_lines s ho] at hk
    have h1 := hr.lineSum ho hk
    have h2 := hs.line ho hk
    have h3 := (kept_range hs.holds o k).1
    refine lineSummed_iff.2 ?_
    rw [freed_line s ho hk, freed_kind s ho]
    by_cases hz : (s.order o).kind = 0
    · rw [if_pos hz, if_pos hz, if_neg (by omega)]
      rw [if_pos hz] at h1
      have e : kept (freedS s).holds o k = kept s.holds o k := rfl
      rw [e]
      simp only
      omega
    · rw [if_neg hz, if_neg hz]
      exact h1
  · rw [freed_len] at ho
    rw [freed_kind s ho, allGot_iff, freed_lines s ho] at hh
    obtain ⟨h1, h2⟩ := hh
    by_cases hz : (s.order o).kind = 0
    · have hl := hs.lines3 ho
      have h3 := h2 0 (by omega)
      have h4 := freed_line s (o := o) (k := 0) ho (by omega)
      rw [if_pos hz] at h4
      have h5 : lineAt ((freedS s).order o).lines 0 = (freedS s).line o 0 := rfl
      rw [h5, h4] at h3
      have h6 := (hr.lineSum (o := o) (k := 0) ho (by omega)).1
      rw [if_pos hz] at h6
      have h7 := hs.line (o := o) (k := 0) ho (by omega)
      have h8 := (kept_range hs.holds o (0 : Nat)).1
      simp only at h3
      omega
    · rw [if_neg hz] at h1
      refine hgot o ho ⟨h1, allGot_iff.2 fun k hk => ?_⟩
      have h3 := h2 k hk
      have h4 := freed_line s (o := o) (k := k) ho hk
      rw [if_neg hz] at h4
      have h5 : lineAt ((freedS s).order o).lines k = (freedS s).line o k := rfl
      rw [h5, h4] at h3
      exact h3

theorem release_taken {p : Plan} {s : State} (h : checkState p s = 0) : Taken p (fun o _ => o < s.orders.length) (freedS s) (releaseS p s) :=
  takeOrders_taken (right_of_check (freed_right h)) _ (by rw [freed_len]; exact Nat.le_refl _)
theorem taken_check {p : Plan} {S : Nat → Nat → Prop} {s t : State} (h : Taken p S s t) (hs : checkState p s = 0) : checkState p t = 0 := by
  refine check_iff.2 ⟨h.right, fun o ho => ?_⟩
  rw [h.orders] at ho
  have := (check_iff.1 hs).2 o ho
  rw [h.kind]
  rintro ⟨h1, h2⟩
  refine this ⟨h1, allGot_iff.2 fun k hk => ?_⟩
  have h3 := allGot_iff.1 h2 k (by rw [h.lines]; exact hk)
  have h4 := h.line o k
  unfold State.line at h4
  rw [h4.2.1, h4.2.2] at h3
  exact h3
theorem release_check {p : Plan} {s : State} (h : checkState p s = 0) : checkState p (releaseS p s) = 0 := taken_check (release_taken h) (freed_right h)
theorem release_len {p : Plan} {s : State} (h : checkState p s = 0) : (releaseS p s).orders.length = s.orders.length := by rw [(release_taken h).orders, freed_len]
-- released once more
-- who was entered first has first
theorem release_lines {p : Plan} {s : State} (h : checkState p s = 0) {o : Nat} (ho : o < s.orders.length) : ((releaseS p s).order o).lines.length = (s.order o).lines.length := by rw [(release_taken h).lines, freed_lines s ho]

-- who is cancelled
theorem holdsOk_filter {l : List Hold} (P : Hold → Bool) (h : holdsOk l = true) : holdsOk (l.filter P) = true := by
  obtain ⟨h1, h2⟩ := holdsOk_iff.1 h
  exact holdsOk_iff.2 ⟨fun x hx => h1 x (List.mem_filter.1 hx).1, h2.sublist List.filter_sublist⟩
theorem kept_filter (l : List Hold) (o : Nat) (o' k' : Int) : kept (l.filter fun h => decide (h.order ≠ o)) o' k' = if o' = (o : Int) then 0 else kept l o' k' := by
  unfold kept
  rw [List.filter_filter]
  split
  · rename_i e
    rw [filter_none]
    · rfl
    · intro x _
      unfold sameLine
      subst e
      by_cases hx : x.order = (o : Int) <;> simp [hx]
  · rename_i e
    congr 2
    apply List.filter_congr
    intro x _
    unfold sameLine
    by_cases hx : x.order = o'
    · have : x.order ≠ (o : Int) := by rw [hx]; exact e
      simp [hx, e]
    · simp [hx]
theorem sum_filter {f : Hold → Int} (P : Hold → Bool) : ∀ {l : List Hold}, (∀ x ∈ l, 0 ≤ f x) → 0 ≤ ((l.filter P).map f).sum ∧ ((l.filter P).map f).sum ≤ (l.map f).sum
  | [], _ => by simp
  | x :: l, h => by
    have h1 := sum_filter P (l := l) fun y hy => h y (List.mem_cons_of_mem _ hy)
    have h2 := h x (List.mem_cons_self ..)
    rw [List.filter_cons]
    split
    · rw [List.map_cons, List.sum_cons, List.map_cons, List.sum_cons]
      omega
    · rw [List.map_cons, List.sum_cons]
      omega
theorem cancel_order {s : State} {o : Nat} (ho : o < s.orders.length) (o' : Nat) : (cancelS s o).order o' = if o' = o then ⟨2, (s.order o).lines.map fun x => { x with back := x.want - x.got }⟩ else s.order o' := orderAt_set ho _ _
theorem cancel_len (s : State) (o : Nat) : (cancelS s o).orders.length = s.orders.length := by simp [cancelS]
theorem cancel_lines {s : State} {o : Nat} (ho : o < s.orders.length) (o' : Nat) : ((cancelS s o).order o').lines.length = (s.order o').lines.length := by
  rw [cancel_order ho]
  split
  · rename_i e
    subst e
    simp
  · rfl
theorem cancel_line {s : State} {o : Nat} (ho : o < s.orders.length) {o' k' : Nat} (hk : k' < (s.order o').lines.length) : (cancelS s o).line o' k' = if o' = o then { s.line o' k' with back := (s.line o' k').want - (s.line o' k').got } else s.line o' k' := by
  unfold State.line
  rw [cancel_order ho]
  split
  · rename_i e
    subst e
    rw [lineAt_eq (by simpa using hk), lineAt_eq hk]
    simp
  · rfl
theorem cancel_check {p : Plan} {s : State} {o : Nat} (h : checkState p s = 0) (ho : o < s.orders.length) : checkState p (cancelS s o) = 0 := by
  obtain ⟨hr, hgot⟩ := check_iff.1 h
  have hs := hr.sane
  have hbound : ∀ b g : Int, bound (cancelS s o) b g ≤ bound s b g := fun b g => by
    have e : heldIn (cancelS s o) b g = heldIn { s with holds := s.holds.filter fun h => decide (h.order ≠ o) } b g := heldIn_mem (s := { s with holds := s.holds.filter fun h => decide (h.order ≠ o) }) (t := cancelS s o) rfl (fun x hx => by
      have hx' := (List.mem_filter.1 hx).1
      obtain ⟨i, hi, rfl⟩ := List.getElem_of_mem hx'
      have := hs.holdAt hi
      rw [hold_get hi] at this
      rw [cancel_line ho (by omega)]
      split <;> rfl) b g
    have e2 : heldIn { s with holds := s.holds.filter fun h => decide (h.order ≠ o) } b g ≤ heldIn s b g := (sum_filter (f := heldN s b g) _ fun x hx => by
      have := (fine_iff.1 ((holdsOk_iff.1 hs.holds).1 x hx)).2
      unfold heldN
      split <;> omega).2
    unfold bound
    rw [e]
    have : (cancelS s o).moves = s.moves := rfl
    rw [this]
    omega
  refine check_iff.2 ⟨Right.of (Sane.of hs.shelf (by rw [cancel_len]; exact hs.orders4) hs.moves8 (fun o' ho' => ?_) (fun o' k ho' hk => ?_) (holdsOk_filter _ hs.holds) (fun x hx => ?_) (fun x hx => List.all_eq_true.1 (formed_iff.1 hs.form).2.2.2.1 x hx)
    (formed_iff.1 hs.form).2.2.2.2.1 (formed_iff.1 hs.form).2.2.2.2.2.1 (formed_iff.1 hs.form).2.2.2.2.2.2) (fun g hg => hr.sum hg) (fun b g hb hg => Int.le_trans (hbound b g) (hr.bnd hb hg)) (fun o' k ho' hk => ?_), fun o' ho' hh => ?_⟩
  · rw [cancel_len] at ho'
    rw [cancel_lines ho]
    refine ⟨hs.lines3 ho', ?_⟩
    rw [cancel_order ho]
    split
    · simp only; omega
    · exact hs.kind ho'
  · rw [cancel_len] at ho'
    rw [cancel_lines ho] at hk
    rw [cancel_line ho hk]
    have h1 := hs.line ho' hk
    split
    · exact lineOk_iff.2 ⟨h1.1, h1.2.1, h1.2.2.1, by simp only; omega⟩
    · exact lineOk_iff.2 h1
  · have hx' := (List.mem_filter.1 hx).1
    have h1 := holdIn_iff.1 (List.all_eq_true.1 (formed_iff.1 hs.form).2.2.1 x hx')
    refine holdIn_iff.2 ⟨by rw [cancel_len]; exact h1.1, ?_, h1.2.2⟩
    rw [cancel_lines ho]
    exact h1.2.1
  · rw [cancel_len] at ho'
    rw [cancel_lines ho] at hk
    have h1 := hr.lineSum ho' hk
    have h2 := hs.line ho' hk
    have e : kept (cancelS s o).holds o' k = if (o' : Int) = (o : Int) then 0 else kept s.holds o' k := kept_filter _ _ _ _
    refine lineSummed_iff.2 ?_
    rw [cancel_line ho hk, cancel_order ho, e]
    by_cases he : o' = o
    · subst he
      rw [if_pos rfl, if_pos rfl, if_pos rfl]
      simp only
      rw [if_neg (by omega)]
      omega
    · rw [if_neg he, if_neg he, if_neg (by omega)]
      exact h1
  · rw [cancel_len] at ho'
    rw [cancel_order ho] at hh
    split at hh
    · exact absurd hh.1 (by simp only; omega)
    · exact hgot o' ho' hh
theorem cancel_right {p : Plan} {s : State} {o : Int} (h : (cancel p s o).2 = 0) : checkState p s = 0 ∧ ∃ i : Nat, o = i ∧ i < s.orders.length ∧ (s.order i).kind ≠ 2 ∧ (cancel p s o).1 = cancelS s i := by
  unfold cancel at h ⊢
  by_cases h1 : checkState p s = 0
  · rw [if_neg (fun hn => hn h1)] at h ⊢
    cases h2 : within o 0 (s.orders.length - 1)
    · rw [h2, if_pos (by rfl)] at h
      simp at h
    · rw [h2, if_neg (by simp)] at h
      have h3 := within_iff.1 h2
      by_cases h4 : (s.order o.toNat).kind = 2
      · rw [if_pos h4] at h
        simp at h
      · refine ⟨h1, o.toNat, by omega, by omega, h4, ?_⟩
        rw [if_neg (by simp), if_neg h4]
  · rw [if_pos h1] at h
    exact absurd h h1
theorem release_right {p : Plan} {s : State} (h : (release p s).2 = 0) : checkState p s = 0 ∧ (release p s).1 = releaseS p s := by
  unfold release at h ⊢
  by_cases h1 : checkState p s = 0
  · rw [if_neg (fun hn => hn h1)]
    exact ⟨h1, rfl⟩
  · rw [if_pos h1] at h
    exact absurd h h1
end Wh
namespace Wh

def gotG (s : State) (g : Int) (o k : Nat) : Int := if (s.line o k).good = g then (s.line o k).got else 0
/-- What is summed over all orders ahead of o, and the lines of o ahead of k. -/
def ovTo (F : Nat → Nat → Int) (s : State) (o k : Nat) : Int := sumTo (fun i => sumTo (F i) (s.order i).lines.length) o + sumTo (F o) k
theorem ovTo_order (F : Nat → Nat → Int) (s : State) (o : Nat) : ovTo F s (o + 1) 0 = ovTo F s o (s.order o).lines.length := by
  show (sumTo _ o + sumTo (F o) (s.order o).lines.length) + 0 = _
  unfold ovTo
  omega
end Wh
namespace Wh

def act (p : Plan) (s : State) (x : Deed) : State × Int :=
  if x.kind = 1 then receive p s x.a x.b x.n
  else if x.kind = 2 then enter p s x.lines
  else if x.kind = 3 then release p s
  else if x.kind = 4 then cancel p s x.a
  else if x.kind = 5 then pick p s x.a x.b x.c x.n
  else if x.kind = 6 then fill p s
  else if x.kind = 7 then moved p s x.a x.n
  else if x.kind = 8 then count p s x.a x.b x.n
  else (dState, 8)

-- what was got of a good, in all
def gotOf (s : State) (g : Int) : Int := ovTo (gotG s g) s s.orders.length 0
theorem ovTo_congr {F G : Nat → Nat → Int} {s t : State} {n : Nat} (hl : ∀ o, o < n → (t.order o).lines.length = (s.order o).lines.length) (hF : ∀ o k, o < n → k < (s.order o).lines.length → G o k = F o k) : ovTo G t n 0 = ovTo F s n 0 := by
  unfold ovTo
  congr 1
  refine sumTo_congr fun o ho => ?_
  rw [hl o ho]
  exact sumTo_congr fun k hk => hF o k ho hk
theorem gotOf_same {s t : State} (h : t.orders.length = s.orders.length) (hl : ∀ o, o < s.orders.length → (t.order o).lines.length = (s.order o).lines.length)
    (hg : ∀ o k, o < s.orders.length → k < (s.order o).lines.length → (t.line o k).good = (s.line o k).good ∧ (t.line o k).got = (s.line o k).got) (g : Int) : gotOf t g = gotOf s g := by
  unfold gotOf
  rw [h]
  refine ovTo_congr hl fun o k ho hk => ?_
  obtain ⟨h1, h2⟩ := hg o k ho hk
  unfold gotG
  rw [h1, h2]
theorem ovTo_one {F G : Nat → Nat → Int} {s t : State} {n i j : Nat} {d : Int} (hl : ∀ o, o < n → (t.order o).lines.length = (s.order o).lines.length) (hi : i < n) (hj : j < (s.order i).lines.length)
    (hF : ∀ o k, o < n → k < (s.order o).lines.length → ¬ (o = i ∧ k = j) → G o k = F o k) (hd : G i j = F i j + d) : ovTo G t n 0 = ovTo F s n 0 + d := by
  have := sumTo_one (f := fun o => sumTo (F o) (s.order o).lines.length) (g := fun o => sumTo (G o) (t.order o).lines.length) (n := n) (i := i) (d := d) hi (fun o ho hne => by
    show sumTo (G o) (t.order o).lines.length = sumTo (F o) (s.order o).lines.length
    rw [hl o ho]
    exact sumTo_congr fun k hk => hF o k ho hk (fun h => hne h.1)) (by
    show sumTo (G i) (t.order i).lines.length = sumTo (F i) (s.order i).lines.length + d
    rw [hl i hi]
    exact sumTo_one hj (fun k hk hne => hF i k hi hk (fun h => hne h.2)) hd)
  unfold ovTo
  rw [this]
  show _ + 0 = _ + 0 + d
  omega
/-- An act leaves what went and what was got alike. -/
structure Kept (p : Plan) (s t : State) : Prop where
  check : checkState p t = 0
  went : ∀ g, g < p.sizes.length → intAt t.out g - intAt s.out g = gotOf t g - gotOf s g ∧ gotOf s g ≤ gotOf t g

section
variable {p : Plan} {s : State}
theorem receive_kept {b g n : Int} (h : (receive p s b g n).2 = 0) : Kept p s (receive p s b g n).1 := by
  refine ⟨(receive_true h).1, fun k hk => ?_⟩
  obtain ⟨_, _, _, _, _, _, _, e⟩ := receive_right h
  rw [e]
  have : gotOf { s with on := setCell s.on b.toNat g.toNat (cell s.on b.toNat g.toNat + n), inn := s.inn.set g.toNat (intAt s.inn g.toNat + n) } k = gotOf s k := gotOf_same rfl (fun _ _ => rfl) (fun _ _ _ _ => ⟨rfl, rfl⟩) k
  rw [this]
  exact ⟨by show intAt s.out k - intAt s.out k = _; omega, Int.le_refl _⟩
theorem enter_kept {l : List Line} (h : (enter p s l).2 = 0) : Kept p s (enter p s l).1 := by
  refine ⟨(enter_true h).1, fun g hg => ?_⟩
  obtain ⟨_, _, _, hl, e⟩ := enter_right h
  rw [e]
  have hor : ∀ o, o < s.orders.length → ({ s with orders := s.orders ++ [⟨0, l⟩] } : State).order o = s.order o := fun o ho => by
    unfold State.order orderAt
    simp [ho, List.getElem?_append_left]
  have hnew : ({ s with orders := s.orders ++ [⟨0, l⟩] } : State).order s.orders.length = ⟨0, l⟩ := by
    unfold State.order orderAt
    simp
  have e1 : gotOf { s with orders := s.orders ++ [⟨0, l⟩] } g = gotOf s g := by
    unfold gotOf
    have hlen : ({ s with orders := s.orders ++ [⟨0, l⟩] } : State).orders.length = s.orders.length + 1 := by simp
    rw [hlen, ovTo_order]
    have e2 := ovTo_congr (F := gotG s g) (G := gotG { s with orders := s.orders ++ [⟨0, l⟩] } g) (s := s) (t := { s with orders := s.orders ++ [⟨0, l⟩] }) (n := s.orders.length) (fun o ho => by rw [hor o ho]) (fun o k ho hk => by
      unfold gotG State.line
      rw [hor o ho])
    rw [← e2]
    unfold ovTo
    congr 1
    refine sumTo_zero fun k hk => ?_
    rw [hnew] at hk
    unfold gotG State.line
    rw [hnew]
    have := (hl (lineAt l k) (by rw [lineAt_eq hk]; exact List.getElem_mem hk)).2.1
    simp only
    rw [this]
    split <;> rfl
  rw [e1]
  exact ⟨by show intAt s.out g - intAt s.out g = _; omega, Int.le_refl _⟩
theorem release_kept (h : (release p s).2 = 0) : Kept p s (release p s).1 := by
  obtain ⟨hc, e⟩ := release_right h
  rw [e]
  have ht := release_taken hc
  refine ⟨release_check hc, fun g hg => ?_⟩
  have : gotOf (releaseS p s) g = gotOf s g := gotOf_same (release_len hc) (fun o ho => release_lines hc ho) (fun o k ho hk => by
    obtain ⟨a1, _, a3⟩ := ht.line o k
    rw [a1, a3, freed_line s ho hk]
    split <;> exact ⟨rfl, rfl⟩) g
  rw [this, ht.out]
  exact ⟨by show intAt s.out g - intAt s.out g = _; omega, Int.le_refl _⟩
theorem cancel_keeps {o : Int} (h : (cancel p s o).2 = 0) : Kept p s (cancel p s o).1 := by
  obtain ⟨hc, i, rfl, hi, _, e⟩ := cancel_right h
  rw [e]
  refine ⟨cancel_check hc hi, fun g hg => ?_⟩
  have : gotOf (cancelS s i) g = gotOf s g := gotOf_same (cancel_len s i) (fun o _ => cancel_lines hi o) (fun o k ho hk => by
    rw [cancel_line hi hk]
    split <;> exact ⟨rfl, rfl⟩) g
  rw [this]
  exact ⟨by show intAt s.out g - intAt s.out g = _; omega, Int.le_refl _⟩
theorem pick_keeps {o k b n : Int} (h : (pick p s o k b n).2 = 0) : Kept p s (pick p s o k b n).1 := by
  obtain ⟨hc, i, j, c, rfl, rfl, rfl, f, e⟩ := pick_right h
  rw [e]
  obtain ⟨h1, h2, h3, h4, h5, _⟩ := pickS_true hc f
  have hr := right_of_check hc
  have hn0 := f.n0
  refine ⟨h1, fun g hg => ?_⟩
  obtain ⟨eg, hgl⟩ := picks_good hr f
  obtain ⟨ht, _, _⟩ := pickT_held hr f
  have hgood : ((pickS p s i j c n).line i j).good = (s.line i j).good := (pickS_short hc f).2.2.1
  have hout : intAt (pickS p s i j c n).out g = intAt s.out g + if g = (s.line i j).good.toNat then n else 0 := by
    rw [pickS_eq, (close_rest _ i).2.2.2.2.1, ht.out]
    show intAt (s.out.set _ _) g = _
    rw [intAt_set (by rw [hr.sane.out.1]; exact hgl)]
    split
    · rename_i e; rw [e]
    · omega
  have hgot : gotOf (pickS p s i j c n) g = gotOf s g + if g = (s.line i j).good.toNat then n else 0 := by
    unfold gotOf
    rw [h2]
    refine ovTo_one (i := i) (j := j) (fun o _ => h3 o) f.ho f.hk (fun o' k' _ _ hne => ?_) ?_
    · unfold gotG
      rw [(h4 o' k' hne).2]
    · unfold gotG
      rw [hgood, h5]
      by_cases hq : g = (s.line i j).good.toNat
      · rw [if_pos hq, if_pos (by omega), if_pos (by omega)]
      · rw [if_neg hq, if_neg (by omega), if_neg (by omega)]
        rfl
  rw [hout, hgot]
  constructor
  · omega
  · split <;> omega
theorem fill_keeps (h : (fill p s).2 = 0) : Kept p s (fill p s).1 := by
  obtain ⟨hc, e⟩ := fill_right h
  rw [e]
  have hf := fillS_filled hc
  refine ⟨filled_check hf, fun g hg => ?_⟩
  have e1 := hf.rest
  have : gotOf (fillS p s) g = gotOf s g := by rw [e1]; exact gotOf_same rfl (fun _ _ => rfl) (fun _ _ _ _ => ⟨rfl, rfl⟩) g
  rw [this]
  have e2 : (fillS p s).out = s.out := by rw [e1]
  rw [e2]
  exact ⟨by omega, Int.le_refl _⟩
theorem moved_keeps {k n : Int} (h : (moved p s k n).2 = 0) : Kept p s (moved p s k n).1 := by
  obtain ⟨hc, i, rfl, f, e⟩ := moved_right h
  rw [e]
  refine ⟨moved_check hc f, fun g hg => ?_⟩
  have : gotOf (movedS s i n) g = gotOf s g := gotOf_same rfl (fun _ _ => rfl) (fun _ _ _ _ => ⟨rfl, rfl⟩) g
  rw [this]
  exact ⟨by show intAt s.out g - intAt s.out g = _; omega, Int.le_refl _⟩
theorem count_keeps {b g n : Int} (h : (count p s b g n).2 = 0) : Kept p s (count p s b g n).1 := by
  obtain ⟨hc, i, j, rfl, rfl, f, e⟩ := count_right h
  rw [e]
  have ht := count_took hc f
  refine ⟨count_check hc f, fun k hk => ?_⟩
  have : gotOf (countS p s i j n) k = gotOf s k := gotOf_same (count_len hc f) (fun o ho => count_lines hc f ho) (fun o k ho hk => by
    obtain ⟨a1, _, a3⟩ := ht.line o k
    rw [a1, a3, cut_line ho hk]
    exact ⟨rfl, rfl⟩) k
  rw [this, ht.out]
  exact ⟨by show intAt s.out k - intAt s.out k = _; omega, Int.le_refl _⟩
/-- Whatever act is done: what comes is right, and nothing is lost. -/
theorem act_kept {x : Deed} (h : (act p s x).2 = 0) : checkState p s = 0 ∧ Kept p s (act p s x).1 := by
  unfold act at h ⊢
  split at h
  · rename_i hk; rw [if_pos hk]; exact ⟨(receive_right h).1, receive_kept h⟩
  rename_i h1; rw [if_neg h1]
  split at h
  · rename_i hk; rw [if_pos hk]; exact ⟨(enter_right h).1, enter_kept h⟩
  rename_i h2; rw [if_neg h2]
  split at h
  · rename_i hk; rw [if_pos hk]; exact ⟨(release_right h).1, release_kept h⟩
  rename_i h3; rw [if_neg h3]
  split at h
  · rename_i hk; rw [if_pos hk]; exact ⟨(cancel_right h).1, cancel_keeps h⟩
  rename_i h4; rw [if_neg h4]
  split at h
  · rename_i hk; rw [if_pos hk]; exact ⟨(pick_right h).1, pick_keeps h⟩
  rename_i h5; rw [if_neg h5]
  split at h
  · rename_i hk; rw [if_pos hk]; exact ⟨(fill_right h).1, fill_keeps h⟩
  rename_i h6; rw [if_neg h6]
  split at h
  · rename_i hk; rw [if_pos hk]; exact ⟨(moved_right h).1, moved_keeps h⟩
  rename_i h7; rw [if_neg h7]
  split at h
  · rename_i hk; rw [if_pos hk]; exact ⟨(count_right h).1, count_keeps h⟩
  simp at h

-- what is held of a good lies there
end
end Wh
namespace Wh

def byteAt (t : List Nat) (i : Nat) : Nat := t.getD i 0
def linesOf (t : List Nat) : Nat → List Line
  | 0 => []
  | m + 1 => ⟨byteAt t 0, byteAt t 1, byteAt t 2, byteAt t 3⟩ :: linesOf (t.drop 4) m
/-- How many bytes the act has that a text begins with; 0: there is none. -/
def actLen (t : List Nat) : Nat := if t.length < 6 then 0 else if 3 < byteAt t 5 ∨ t.length < 6 + 4 * byteAt t 5 then 0 else 6 + 4 * byteAt t 5
def actFrom (t : List Nat) : Deed := ⟨byteAt t 0, byteAt t 1, byteAt t 2, byteAt t 3, byteAt t 4, linesOf (t.drop 6) (byteAt t 5)⟩
/-- The acts that a text begins with, n at most, and how many bytes they have. -/
def replay : Nat → List Nat → List Deed × Nat
  | 0, _ => ([], 0)
  | n + 1, t => if actLen t = 0 then ([], 0) else (actFrom t :: (replay n (t.drop (actLen t))).1, actLen t + (replay n (t.drop (actLen t))).2)
def replayE (t : List Nat) : List Deed × Int × Int := if 4096 < t.length then ([], 0, 2) else ((replay 60 t).1, (replay 60 t).2, 0)
def isByte (n : Int) : Bool := within n 0 255
def lineByte (x : Line) : Bool := isByte x.good && isByte x.want && isByte x.got && isByte x.back
def lineBytes (x : Line) : List Nat := [x.good.toNat, x.want.toNat, x.got.toNat, x.back.toNat]
def actBytes (x : Deed) : List Nat := [x.kind.toNat, x.a.toNat, x.b.toNat, x.c.toNat, x.n.toNat, x.lines.length] ++ x.lines.flatMap lineBytes
def allByte (x : Deed) : Bool := isByte x.kind && isByte x.a && isByte x.b && isByte x.c && isByte x.n && x.lines.all lineByte
def writeE (x : Deed) : List Nat × Int := if !(allByte x) then ([], 3) else if 3 < x.lines.length then ([], 2) else (actBytes x, 0)
/-- Acts, one behind the other. -/
def doneOf (p : Plan) : List Deed → State → State
  | [], s => s
  | x :: l, s => doneOf p l (if (act p s x).2 = 0 then (act p s x).1 else s)
def recoverE (p : Plan) (t : List Nat) : State × Int × Int :=
  if checkPlan p ≠ 0 then (dState, 0, checkPlan p) else if (replayE t).2.2 ≠ 0 then (dState, 0, (replayE t).2.2) else (doneOf p (replayE t).1 (begin p), ((replayE t).1.length : Int), 0)

theorem actLen_le (t : List Nat) : actLen t ≤ t.length := by
  unfold actLen
  split
  · omega
  · split <;> omega
theorem actLen_pos {t : List Nat} (h : actLen t ≠ 0) : 6 ≤ actLen t ∧ actLen t = 6 + 4 * byteAt t 5 ∧ byteAt t 5 ≤ 3 := by
  unfold actLen at h ⊢
  split at h
  · exact absurd rfl h
  · rename_i h1
    rw [if_neg h1]
    split at h
    · exact absurd rfl h
    · rename_i h2
      rw [if_neg h2]
      omega
theorem replay_len : ∀ (n : Nat) (t : List Nat), (replay n t).1.length ≤ n ∧ (replay n t).2 ≤ t.length
  | 0, t => ⟨Nat.le_refl _, Nat.zero_le _⟩
  | n + 1, t => by
    rw [replay]
    split
    · exact ⟨Nat.zero_le _, Nat.zero_le _⟩
    · have h1 := replay_len n (t.drop (actLen t))
      have h2 := actLen_le t
      rw [List.length_drop] at h1
      simp only [List.length_cons]
      omega
theorem isByte_iff {n : Int} : isByte n = true ↔ 0 ≤ n ∧ n ≤ 255 := within_iff
def ok (x : Deed) : Prop := allByte x = true ∧ x.lines.length ≤ 3
theorem doneOf_append (p : Plan) : ∀ (l m : List Deed) (s : State), doneOf p (l ++ m) s = doneOf p m (doneOf p l s)
  | [], _, _ => rfl
  | x :: l, m, s => by
    rw [List.cons_append, doneOf, doneOf, doneOf_append p l m]
theorem doneOf_check {p : Plan} : ∀ {l : List Deed} {s : State}, checkState p s = 0 → checkState p (doneOf p l s) = 0
  | [], _, h => h
  | x :: l, s, h => by
    rw [doneOf]
    refine doneOf_check ?_
    split
    · rename_i h1
      exact (act_kept h1).2.check
    · exact h
end Wh
