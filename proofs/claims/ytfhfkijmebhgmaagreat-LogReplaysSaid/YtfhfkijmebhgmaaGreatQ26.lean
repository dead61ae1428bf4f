/- Texts of the claim, joined: RelB, RelC, RelD. -/
import Derived.Test.YtfhfkijmebhgmaaGreatQ06
namespace Wh
open Go Go.RowKit
section
variable {P : Program} {l : List Oper} {n : Nat} {R : Nat → (Nat → Value) → World → Prop} {Q : Exit → Act → World → Prop} {a : Act} {w : World}
/-- What is to be shown of one operation: the one that breaks J may use it. -/
def StepBrk (P : Program) (l : List Oper) (n : Nat) (R : Nat → (Nat → Value) → World → Prop) (Q : Exit → Act → World → Prop) (a : Act) (T J : World → Prop) (Eb : World → World → Prop) (brk i : Nat) (o : Oper) : Prop :=
  ∀ f w', T w' → (i = brk → J w') → Deps n R f w' o →
    o.wp P (fillA a (l.take n) f) w' (fun a' w'' => ∃ v, a' = (fillA a (l.take n) f).put o.dst v ∧ R i (updO f o.dst v) w'' ∧ ((i ≠ brk ∧ Below w'.heap.size w' w'') ∨ (i = brk ∧ Eb w' w''))) Q
theorem brk_run {T J : World → Prop} {Eb : World → World → Prop} {brk : Nat} (hT1 : ∀ w1 w2, T w1 → Below w1.heap.size w1 w2 → T w2) (hT2 : ∀ w1 w2, T w1 → Eb w1 w2 → T w2) (hJ : ∀ w1 w2, J w1 → Below w1.heap.size w1 w2 → J w2) (hle : n ≤ l.length) (hwait : ∀ listed, HeadInv .any l.toArray n listed → ∀ i, i < n → listed.getD i true = false → ∀ t, n ≤ t → t ∉ Region.ready .any l.toArray listed) (hseq : Region.seqB .any l.toArray (l.length - n) n (heads l.length n) = true)
    (hg : ∀ i o, i < n → l[i]? = some o → o.guard = none) (hnd : ((l.take n).filterMap (·.dst)).Nodup) (hback : ∀ i o, i < n → l[i]? = some o → ∀ e ∈ o.after, Region.binds .any e = true → e.on < i)
    (hst : ∀ i g w1 w2, R i g w1 → Below w1.heap.size w1 w2 → R i g w2) (hst2 : ∀ i g w1 w2, i ≠ brk → R i g w1 → Eb w1 w2 → R i g w2) (hsup : ∀ i g g' w, (∀ j o d, Anc l j i → l[j]? = some o → o.dst = some d → g d = g' d) → R i g w → R i g' w) (hsteps : ∀ i o, i < n → l[i]? = some o → StepBrk P l n R Q a T J Eb brk i o)
    (hend : ∀ f w', T w' → (∀ i, i < n → R i f w') → wpList P l.toArray Q (l.drop n) (fillA a (l.take n) f) w') :
    ∀ (k : Nat) (listed : Array Bool) (f : Nat → Value) (w' : World), HeadInv .any l.toArray n listed → unl listed n = k → T w' → (listed.getD brk false = false → J w') → (∀ i, i < n → listed.getD i false = true → R i f w') →
      wpAny P .any l.toArray Q (k + (l.length - n)) listed (fillA a (l.take n) f) w'
  | 0, listed, f, w', inv, hk, hb, _, hR => by
    have hsz : listed.size = l.length := by rw [inv.size]; simp
    have he : listed = heads l.length n := by
      apply Array.ext_getElem?
      intro i
      unfold heads
      rw [Array.getElem?_append]
      simp only [Array.size_replicate]
      by_cases hi : i < n
      · rw [if_pos hi]
        have h1 := unl_zero hk hi
        have h2 : i < listed.size := by omega
        simp [hi, h2, Array.getD] at h1 ⊢
        exact h1
      · rw [if_neg hi]
        by_cases hl : i < l.length
        · have h1 := inv.tail i (by omega) (by simpa using hl)
          have h2 : i < listed.size := by omega
          have h3 : i - n < l.length - n := by omega
          simp [h2, h3, Array.getD] at h1 ⊢
          exact h1
        · rw [Array.getElem?_eq_none (by omega), Array.getElem?_eq_none (by simp; omega)]
    have hd : l.length - n = (l.drop n).length := by simp
    rw [Nat.zero_add, hd]
    refine wpAny_of_seq (l.drop n) n listed _ w' (fun j => by simp [List.getElem?_drop]) (by rw [he, ← hd]; exact hseq) (hend f w' hb fun i hin => hR i hin ?_)
    have h1 := unl_zero hk hin
    have h2 : i < listed.size := by omega
    simp [h2, Array.getD] at h1 ⊢
    exact h1
  | k + 1, listed, f, w', inv, hk, hb, hJw, hR => by
    have hsz : listed.size = l.length := by rw [inv.size]; simp
    obtain ⟨i0, hi0, hu0⟩ := unl_pos (show 0 < unl listed n by omega)
    have hne : ∀ i, i < n → listed.getD i true = false → Region.ready .any l.toArray listed ≠ [] := by
      intro i
      induction i using Nat.strongRecOn with
      | _ i ih =>
        intro hin hu
        have hil : i < l.length := by omega
        by_cases hall : ∀ e ∈ (l[i]).after, Region.binds .any e = true → listed.getD e.on false = true
        · have : i ∈ Region.ready .any l.toArray listed := mem_ready.2 ⟨hu, l[i], by simp [hil], hall⟩
          intro h0
          rw [h0] at this
          cases this
        · simp only [Classical.not_forall] at hall
          obtain ⟨e, he, hbd, hno⟩ := hall
          have hlt := hback i l[i] hin (by simp [hil]) e he hbd
          exact ih e.on hlt (by omega) (getD_in (by omega) (by simpa using hno))
    rw [show k + 1 + (l.length - n) = (k + (l.length - n)) + 1 by omega]
    refine ⟨fun h0 => absurd h0 (hne i0 hi0 hu0), fun i hi => ?_⟩
    have hin : i < n := by
      rcases Nat.lt_or_ge i n with h | h
      · exact h
      · exact absurd hi (hwait listed inv i0 hi0 hu0 i h)
    obtain ⟨hu, o, ho, hall⟩ := mem_ready.1 hi
    have ho' : l[i]? = some o := by simpa using ho
    have hgd := hg i o hin ho'
    have h1 := hsteps i o hin ho' f w' hb (fun e => hJw (by rw [← e]; exact getD_both hu)) fun e he hbd hen => hR e.on hen (hall e he hbd)
    unfold wpOp
    simp only [ho]
    rw [if_pos (by simp [Region.wanted, hgd])]
    refine .inl (Oper.wp_mono ?_ h1)
    rintro a' w'' ⟨v, rfl, hv, hbw⟩
    have hcount : unl (listed.setIfInBounds i true) n = k := by
      have := unl_set hu n
      rw [if_pos hin] at this
      omega
    have hb2 : T w'' := by
      rcases hbw with ⟨_, hbw⟩ | ⟨_, hbw⟩
      · exact hT1 _ _ hb hbw
      · exact hT2 _ _ hb hbw
    have hJ2 : (listed.setIfInBounds i true).getD brk false = false → J w'' := fun h => by
      rcases hbw with ⟨hne, hbw⟩ | ⟨rfl, _⟩
      · rw [getD_set_ne false hne] at h
        exact hJ _ _ (hJw h) hbw
      · rw [getD_set_self false (lt_of_unl hu)] at h
        cases h
    have hanc : ∀ j k, Anc l j k → k < n → listed.getD k false = true → j < n ∧ listed.getD j false = true := by
      intro j k h
      induction h with
      | self => exact fun h1 h2 => ⟨h1, h2⟩
      | back ho he hbd hon _ ih =>
        intro h1 h2
        subst hon
        have := hback _ _ h1 ho _ he hbd
        exact ih (by omega) (inv.closed _ _ (by simpa using ho) h2 _ he hbd)
    have hfin : (fillA a (l.take n) f).put o.dst v = fillA a (l.take n) (updO f o.dst v) := by
      cases hdst : o.dst with
      | none => rfl
      | some d0 =>
        unfold fillA Act.put updO
        simp only
        rw [fillT_put (dst_mem ho' hin hdst)]
    rw [hfin]
    refine brk_run hT1 hT2 hJ hle hwait hseq hg hnd hback hst hst2 hsup hsteps hend k _ (updO f o.dst v) w'' (inv.set hi hin) hcount hb2 hJ2 fun j hjn hl => ?_
    by_cases hij : i = j
    · subst hij
      exact hv
    · rw [getD_set_ne false hij] at hl
      refine hsup j f _ _ (fun j' oj d haj hoj hd => ?_) (by
        rcases hbw with ⟨_, hbw⟩ | ⟨rfl, hbw⟩
        · exact hst _ _ _ _ (hR j hjn hl) hbw
        · exact hst2 _ _ _ _ (fun e => hij e.symm) (hR j hjn hl) hbw)
      obtain ⟨hjn', hlj'⟩ := hanc _ _ haj hjn hl
      cases hdst : o.dst with
      | none => rfl
      | some d0 =>
        have hne : i ≠ j' := fun e => by
          subst e
          rw [getD_both hu] at hlj'
          cases hlj'
        have hdd := dst_ne hnd ho' hin hdst hoj hjn' hd hne
        unfold updO upd
        simp only
        rw [if_neg (fun e => hdd e.symm)]

theorem any_brk (n : Nat) (T J : World → Prop) (Eb : World → World → Prop) (brk : Nat) (R : Nat → (Nat → Value) → World → Prop) (hB : relB l n = true) (hT1 : ∀ w1 w2, T w1 → Below w1.heap.size w1 w2 → T w2) (hT2 : ∀ w1 w2, T w1 → Eb w1 w2 → T w2) (hJ : ∀ w1 w2, J w1 → Below w1.heap.size w1 w2 → J w2) (hT0 : T w.drew) (hJ0 : J w.drew)
    (hst : ∀ i g w1 w2, R i g w1 → Below w1.heap.size w1 w2 → R i g w2) (hst2 : ∀ i g w1 w2, i ≠ brk → R i g w1 → Eb w1 w2 → R i g w2)
    (hsup : ∀ i g g' w, (∀ j o d, Anc l j i → l[j]? = some o → o.dst = some d → g d = g' d) → R i g w → R i g' w) (hsteps : ∀ i o, i < n → l[i]? = some o → StepBrk P l n R Q a T J Eb brk i o)
    (hend : ∀ f w', T w' → (∀ i, i < n → R i f w') → wpList P l.toArray Q (l.drop n) (fillA a (l.take n) f) w') : wpAny P .any l.toArray Q l.toArray.size (Array.replicate l.toArray.size false) a w.drew := by
  simp only [relB, Bool.and_eq_true, Bool.or_eq_true, decide_eq_true_eq, List.all_eq_true] at hB
  obtain ⟨⟨⟨⟨hw, hseq⟩, hg⟩, hnd⟩, hback⟩ := hB
  have hle : n ≤ l.length := by rcases hw with h | h <;> omega
  have hat : ∀ i o, i < n → l[i]? = some o → o ∈ l.take n := fun i o hin hi => by
    rw [List.mem_iff_getElem?]
    exact ⟨i, by rw [List.getElem?_take]; simp [hin, hi]⟩
  have H := brk_run (P := P) (Q := Q) (a := a) hT1 hT2 hJ hle ?_ hseq (fun i o hin hi => by simpa using hg o (hat i o hin hi)) hnd ?_ hst hst2 hsup hsteps hend n (Array.replicate l.toArray.size false) (fun d => a.tmps.getD d undef) w.drew
    ⟨by simp, fun j oj _ hl => (by rw [getD_replicate_false] at hl; cases hl), fun t _ ht => getD_in (by simpa using ht) (getD_replicate_false _ _)⟩ ?_ hT0 (fun _ => hJ0) (fun i _ hl => by rw [getD_replicate_false] at hl; cases hl)
  · have e : fillA a (l.take n) (fun d => a.tmps.getD d undef) = a := by
      unfold fillA
      rw [fillT_self]
    rw [e] at H
    have hs : n + (l.length - n) = l.toArray.size := by simp; omega
    rw [hs] at H
    exact H
  · intro listed inv i hin hu t ht hr
    rcases hw with h | ⟨⟨h1, h2⟩, h3⟩
    · obtain ⟨_, o, ho, _⟩ := mem_ready.1 hr
      have := (Array.getElem?_eq_some_iff.1 ho).1
      simp at this
      omega
    · exact tail_waits h2 h3 (by simpa using h1) inv (n - i) i rfl hin hu t ht hr
  · intro i o hin hi e he hbd
    have := hback i (List.mem_range.2 hin)
    rw [hi] at this
    simp only [Option.map_some, Option.getD_some, Array.all_eq_true_iff_forall_mem, Bool.or_eq_true, Bool.not_eq_true', decide_eq_true_eq] at this
    rcases this e he with h | h
    · rw [h] at hbd; cases hbd
    · exact h
  · have key : ∀ m, m ≤ l.length → unl (Array.replicate l.toArray.size false) m = m := by
      intro m
      induction m with
      | zero => intro _; rfl
      | succ m ih =>
        intro hm
        have := ih (by omega)
        unfold unl at this ⊢
        have hml : m < l.length := by omega
        rw [List.range_succ, List.countP_append, this]
        simp [hml]
    exact key n hle
theorem OpRel.mono {P : Program} {o : Oper} {ev : Operand → Value} {w : World} {K K' : Value → World → Prop} (hk : ∀ v w, K v w → K' v w) (h : OpRel P o ev w K) : OpRel P o ev w K' := by
  unfold OpRel at *
  generalize (execOp ev o).run P w = r at *
  cases r with
  | ok n w' =>
    cases n <;> simp only at h ⊢
    case value v => exact hk _ _ h
    case skip => exact hk _ _ h
    case enter f args => exact h.mono fun e w'' ⟨v, he, h⟩ => ⟨v, he, hk _ _ h⟩
  | halt x w' => exact h
theorem StepBrk.of {T J : World → Prop} {Eb : World → World → Prop} {brk : Nat} {i : Nat} {o : Oper} (hi : i < n) (hB : relB l n = true) (hsz : ((l.take n).filterMap (·.dst)).all (fun d => decide (d < a.tmps.size)) = true)
    (hsup : ∀ i g g' w, (∀ j o d, Anc l j i → l[j]? = some o → o.dst = some d → g d = g' d) → R i g w → R i g' w)
    (h : ∀ (g : Nat → Value) w', T w' → (i = brk → J w') → (∀ d, ((l.take n).filterMap (·.dst)).contains d = false → g d = a.tmps.getD d undef) → Deps n R g w' o → OpRel P o (evL g) w' fun v w'' => R i (updO g o.dst v) w'' ∧ ((i ≠ brk ∧ Below w'.heap.size w' w'') ∨ (i = brk ∧ Eb w' w''))) :
    StepBrk P l n R Q a T J Eb brk i o := by
  simp only [relB, Bool.and_eq_true, Bool.or_eq_true, decide_eq_true_eq, List.all_eq_true] at hB
  obtain ⟨_, hback⟩ := hB
  have hback' : ∀ k oe, k < n → l[k]? = some oe → ∀ e ∈ oe.after, Region.binds .any e = true → e.on < k := fun k oe hk hoe e he hbd => by
    have := hback k (List.mem_range.2 hk)
    rw [hoe] at this
    simp only [Option.map_some, Option.getD_some, Array.all_eq_true_iff_forall_mem, Bool.or_eq_true, Bool.not_eq_true', decide_eq_true_eq] at this
    rcases this e he with h | h
    · rw [h] at hbd; cases hbd
    · exact h
  have hanc : ∀ j k, Anc l j k → k < n → j < n := by
    intro j k h
    induction h with
    | self => exact id
    | back ho he hbd hon _ ih =>
      intro h1
      subst hon
      have := hback' _ _ h1 ho _ he hbd
      exact ih (by omega)
  have hsz' : ∀ d ∈ (l.take n).filterMap (·.dst), d < a.tmps.size := fun d hd => by
    have := List.all_eq_true.1 hsz d hd
    simpa using this
  intro f w' hb hj hd
  have hg : ∀ d ∈ (l.take n).filterMap (·.dst), (fillA a (l.take n) f).tmps.getD d undef = f d := fun d hd => by
    have h1 := fillT_get ((l.take n).filterMap (·.dst)) f a.tmps d
    rw [if_pos (hsz' d hd), if_pos hd] at h1
    unfold fillA
    simp only [Array.getD_eq_getD_getElem?, h1, Option.getD_some]
  have ho : ∀ d, ((l.take n).filterMap (·.dst)).contains d = false → (fillA a (l.take n) f).tmps.getD d undef = a.tmps.getD d undef := fun d hd => by
    have h1 := fillT_get ((l.take n).filterMap (·.dst)) f a.tmps d
    have h2 : d ∉ (l.take n).filterMap (·.dst) := by simpa using hd
    rw [if_neg h2] at h1
    unfold fillA
    simp only [Array.getD_eq_getD_getElem?, h1]
    by_cases hl : d < a.tmps.size
    · rw [if_pos hl]
    · rw [if_neg hl, Array.getElem?_eq_none (Nat.le_of_not_lt hl)]
  have key := h (fun d => (fillA a (l.take n) f).tmps.getD d undef) w' hb hj ho (fun e he hbd hen => hsup e.on f _ _ (fun j oj d haj hoj hdj => (hg d (dst_mem hoj (hanc _ _ haj hen) hdj)).symm) (hd e he hbd hen))
  rw [← evL_eval] at key
  refine Oper.wp_mono ?_ key.wp
  rintro a' w'' ⟨v, rfl, hr, hbw⟩
  refine ⟨v, rfl, hsup i _ _ _ (fun j oj d haj hoj hdj => ?_) hr, hbw⟩
  have hjn := hanc _ _ haj hi
  have hmem := dst_mem hoj hjn hdj
  cases hdst : o.dst with
  | none => exact hg d hmem
  | some d0 =>
    unfold updO upd
    simp only
    split
    · rfl
    · exact hg d hmem

/-- One operation: what it says stays, hangs on what came before it alone, and comes. -/
def OpBrk (P : Program) (l : List Oper) (n : Nat) (Rs : List RelP) (a : Act) (T J : World → Prop) (Eb : World → World → Prop) (brk i : Nat) (o : Oper) (p : RelP) : Prop :=
  (∀ g w1 w2, p g w1 → Below w1.heap.size w1 w2 → p g w2) ∧ (i ≠ brk → ∀ g w1 w2, p g w1 → Eb w1 w2 → p g w2) ∧ (∀ g g' w, (∀ j o d, Anc l j i → l[j]? = some o → o.dst = some d → g d = g' d) → p g w → p g' w) ∧
  ∀ g w', T w' → (i = brk → J w') → (∀ d, ((l.take n).filterMap (·.dst)).contains d = false → g d = a.tmps.getD d undef) → Deps n (atR Rs) g w' o →
    OpRel P o (evL g) w' fun v w'' => p (updO g o.dst v) w'' ∧ ((i ≠ brk ∧ Below w'.heap.size w' w'') ∨ (i = brk ∧ Eb w' w''))
def OpsBrk (P : Program) (l : List Oper) (n : Nat) (Rs : List RelP) (a : Act) (T J : World → Prop) (Eb : World → World → Prop) (brk : Nat) : Nat → List Oper → List RelP → Prop
  | _, [], _ => True
  | _, _ :: _, [] => False
  | i, o :: r, p :: ps => OpBrk P l n Rs a T J Eb brk i o p ∧ OpsBrk P l n Rs a T J Eb brk (i + 1) r ps
section
variable {Rs : List RelP} {T J : World → Prop} {Eb : World → World → Prop} {brk : Nat}
theorem OpsBrk.at : ∀ {r : List Oper} {ps : List RelP} {k : Nat}, OpsBrk P l n Rs a T J Eb brk k r ps → ∀ {j : Nat} {o : Oper}, r[j]? = some o → OpBrk P l n Rs a T J Eb brk (k + j) o (ps.getD j (fun _ _ => True))
  | [], _, _, _, _, _, h => by simp at h
  | _ :: _, [], _, h, _, _, _ => h.elim
  | x :: r, p :: ps, k, h, 0, o, hj => by
    simp at hj
    subst hj
    exact h.1
  | x :: r, p :: ps, k, h, j + 1, o, hj => by
    have := OpsBrk.at h.2 (j := j) (o := o) (by simpa using hj)
    rw [show k + 1 + j = k + (j + 1) by omega] at this
    simpa using this
theorem OpsBrk.nil {i : Nat} {ps : List RelP} : OpsBrk P l n Rs a T J Eb brk i [] ps := by cases ps <;> trivial
theorem OpsBrk.cons {i : Nat} {o : Oper} {r : List Oper} {p : RelP} {ps : List RelP} (h : OpBrk P l n Rs a T J Eb brk i o p) (h' : OpsBrk P l n Rs a T J Eb brk (i + 1) r ps) : OpsBrk P l n Rs a T J Eb brk i (o :: r) (p :: ps) := ⟨h, h'⟩
end
theorem any_opsB (n : Nat) (T J : World → Prop) (Eb : World → World → Prop) (brk : Nat) (Rs : List RelP) (hB : relB l n = true) (hn : Rs.length = n) (hsz : ((l.take n).filterMap (·.dst)).all (fun d => decide (d < a.tmps.size)) = true)
    (hT1 : ∀ w1 w2, T w1 → Below w1.heap.size w1 w2 → T w2) (hT2 : ∀ w1 w2, T w1 → Eb w1 w2 → T w2) (hJ : ∀ w1 w2, J w1 → Below w1.heap.size w1 w2 → J w2) (hT0 : T w.drew) (hJ0 : J w.drew)
    (hops : OpsBrk P l n Rs a T J Eb brk 0 (l.take n) Rs) (hend : ∀ f w', T w' → AllR Rs f w' → wpList P l.toArray Q (l.drop n) (fillA a (l.take n) f) w') : wpAny P .any l.toArray Q l.toArray.size (Array.replicate l.toArray.size false) a w.drew := by
  have hle : n ≤ l.length := by
    have := hB
    simp only [relB, Bool.and_eq_true, Bool.or_eq_true, decide_eq_true_eq] at this
    rcases this.1.1.1.1 with h | h <;> omega
  have hat : ∀ i, i < n → ∃ o, l[i]? = some o ∧ OpBrk P l n Rs a T J Eb brk i o (atR Rs i) := fun i hi => by
    have hil : i < l.length := by omega
    refine ⟨l[i], by simp [hil], ?_⟩
    have := hops.at (j := i) (o := l[i]) (by rw [List.getElem?_take]; simp [hi, hil])
    rwa [Nat.zero_add] at this
  have htriv : ∀ i g w, ¬ i < n → atR Rs i g w := fun i g w hi => by
    unfold atR
    rw [List.getD_eq_getElem?_getD, List.getElem?_eq_none (by omega)]
    trivial
  have hsup : ∀ i g g' w, (∀ j o d, Anc l j i → l[j]? = some o → o.dst = some d → g d = g' d) → atR Rs i g w → atR Rs i g' w := fun i g g' w1 he h => by
    by_cases hi : i < n
    · obtain ⟨o, _, _, _, h2, _⟩ := hat i hi
      exact h2 g g' w1 he h
    · exact htriv i g' w1 hi
  refine any_brk n T J Eb brk (atR Rs) hB hT1 hT2 hJ hT0 hJ0 (fun i g w1 w2 h hb => ?_) (fun i g w1 w2 hne h hb => ?_) hsup (fun i o hi ho => ?_) (fun f w' hb hR => hend f w' hb (AllR.of fun i hi => hR i (by omega)))
  · by_cases hi : i < n
    · obtain ⟨o, _, h1, _⟩ := hat i hi
      exact h1 g w1 w2 h hb
    · exact htriv i g w2 hi
  · by_cases hi : i < n
    · obtain ⟨o, _, _, h1, _⟩ := hat i hi
      exact h1 hne g w1 w2 h hb
    · exact htriv i g w2 hi
  · obtain ⟨o', ho', _, _, _, h3⟩ := hat i hi
    rw [ho] at ho'
    injection ho' with ho'
    subst ho'
    exact StepBrk.of hi hB hsz hsup h3
theorem wp_region_opsB (n : Nat) (T J : World → Prop) (Eb : World → World → Prop) (brk : Nat) (Rs : List RelP) {id : Nat} (hm : P.follows .mixedOrders = true) (hB : relB l n = true) (hn : Rs.length = n) (hsz : ((l.take n).filterMap (·.dst)).all (fun d => decide (d < a.tmps.size)) = true)
    (hT1 : ∀ w1 w2, T w1 → Below w1.heap.size w1 w2 → T w2) (hT2 : ∀ w1 w2, T w1 → Eb w1 w2 → T w2) (hJ : ∀ w1 w2, J w1 → Below w1.heap.size w1 w2 → J w2) (hT0 : T w.drew) (hJ0 : J w.drew)
    (hops : OpsBrk P l n Rs a T J Eb brk 0 (l.take n) Rs) (hend : ∀ f w', T w' → AllR Rs f w' → wpList P l.toArray Q (l.drop n) (fillA a (l.take n) f) w') : (Code.region id l.toArray true).wp P Q a w :=
  wp_region_any hm (any_opsB n T J Eb brk Rs hB hn hsz hT1 hT2 hJ hT0 hJ0 hops hend)
section
variable {Rs : List RelP} {T J : World → Prop} {Eb : World → World → Prop} {brk : Nat}
theorem OpBrk.val {i d : Nat} {o : Oper} {c : Value} (hi : l[i]? = some o) (ho : o.dst = some d) (hne : i ≠ brk)
    (h : ∀ g w', T w' → (∀ d, ((l.take n).filterMap (·.dst)).contains d = false → g d = a.tmps.getD d undef) → Deps n (atR Rs) g w' o → (execOp (evL g) o).run P w' = .ok (.value c) w') :
    OpBrk P l n Rs a T J Eb brk i o (fun g _ => g d = c) := by
  refine ⟨fun _ _ _ h _ => h, fun _ _ _ _ h _ => h, fun g g' _ he h => (he i o d (Anc.self i) hi ho).symm.trans h, fun g w' hb _ hout hd => ?_⟩
  unfold OpRel
  rw [h g w' hb hout hd]
  refine ⟨?_, .inl ⟨hne, Below.refl _ _⟩⟩
  rw [ho]
  unfold updO upd
  simp
theorem OpBrk.one {i d : Nat} {o : Oper} {p : Value → World → Prop} (hi : l[i]? = some o) (ho : o.dst = some d) (hne : i ≠ brk) (hst : ∀ v w1 w2, p v w1 → Below w1.heap.size w1 w2 → p v w2) (hst2 : ∀ v w1 w2, p v w1 → Eb w1 w2 → p v w2)
    (h : ∀ g w', T w' → (∀ d, ((l.take n).filterMap (·.dst)).contains d = false → g d = a.tmps.getD d undef) → Deps n (atR Rs) g w' o → OpRel P o (evL g) w' fun v w'' => p v w'' ∧ Below w'.heap.size w' w'') :
    OpBrk P l n Rs a T J Eb brk i o (fun g w => p (g d) w) := by
  refine ⟨fun g w1 w2 h hb => hst _ _ _ h hb, fun _ g w1 w2 h hb => hst2 _ _ _ h hb, fun g g' w1 he h => ?_, fun g w' hb _ hout hd => ?_⟩
  · show p (g' d) w1
    rw [← he i o d (Anc.self i) hi ho]
    exact h
  · have h1 := h g w' hb hout hd
    rw [ho]
    have e : ∀ v, updO g (some d) v d = v := fun v => by unfold updO upd; simp
    simp only [e]
    exact OpRel.mono (fun v w'' h => ⟨h.1, .inl ⟨hne, h.2⟩⟩) h1
end
end
end Wh
namespace Wh
open Go Go.RowKit
section
variable {P : Program} {l : List Oper} {n : Nat} {R : Nat → Nat → (Nat → Value) → World → Prop} {Q : Exit → Act → World → Prop} {a : Act} {w : World}
def stepN (b1 b2 i ph : Nat) : Nat := if i = b1 then 1 else if i = b2 then 2 else ph
def bkN (b1 b2 k : Nat) : Nat := if k = 0 then b1 else b2
/-- What is to be shown of one operation. -/
def StepPh (P : Program) (l : List Oper) (n : Nat) (R : Nat → Nat → (Nat → Value) → World → Prop) (Q : Exit → Act → World → Prop) (a : Act) (T : World → Prop) (Eb : Nat → World → World → Prop) (b1 b2 i : Nat) (o : Oper) : Prop :=
  ∀ ph f w', T w' → (i = b1 → ph = 0) → (i = b2 → ph = 1) → Deps n (R ph) f w' o →
    o.wp P (fillA a (l.take n) f) w' (fun a' w'' => ∃ v, a' = (fillA a (l.take n) f).put o.dst v ∧ R (stepN b1 b2 i ph) i (updO f o.dst v) w'' ∧ ((i ≠ b1 ∧ i ≠ b2 ∧ Below w'.heap.size w' w'') ∨ (i = b1 ∧ Eb 0 w' w'') ∨ (i = b2 ∧ Eb 1 w' w''))) Q
theorem StepPh.of {T : World → Prop} {Eb : Nat → World → World → Prop} {b1 b2 : Nat} {i : Nat} {o : Oper} (hi : i < n) (hB : relB l n = true) (hsz : ((l.take n).filterMap (·.dst)).all (fun d => decide (d < a.tmps.size)) = true)
    (hsup : ∀ ph i g g' w, (∀ j o d, Anc l j i → l[j]? = some o → o.dst = some d → g d = g' d) → R ph i g w → R ph i g' w)
    (h : ∀ ph (g : Nat → Value) w', T w' → (i = b1 → ph = 0) → (i = b2 → ph = 1) → (∀ d, ((l.take n).filterMap (·.dst)).contains d = false → g d = a.tmps.getD d undef) → Deps n (R ph) g w' o → OpRel P o (evL g) w' fun v w'' => R (stepN b1 b2 i ph) i (updO g o.dst v) w'' ∧ ((i ≠ b1 ∧ i ≠ b2 ∧ Below w'.heap.size w' w'') ∨ (i = b1 ∧ Eb 0 w' w'') ∨ (i = b2 ∧ Eb 1 w' w''))) :
    StepPh P l n R Q a T Eb b1 b2 i o := by
  simp only [relB, Bool.and_eq_true, Bool.or_eq_true, decide_eq_true_eq, List.all_eq_true] at hB
  obtain ⟨_, hback⟩ := hB
  have hback' : ∀ k oe, k < n → l[k]? = some oe → ∀ e ∈ oe.after, Region.binds .any e = true → e.on < k := fun k oe hk hoe e he hbd => by
    have := hback k (List.mem_range.2 hk)
    rw [hoe] at this
    simp only [Option.map_some, Option.getD_some, Array.all_eq_true_iff_forall_mem, Bool.or_eq_true, Bool.not_eq_true', decide_eq_true_eq] at this
    rcases this e he with h | h
    · rw [h] at hbd; cases hbd
    · exact h
  have hanc : ∀ j k, Anc l j k → k < n → j < n := by
    intro j k h
    induction h with
    | self => exact id
    | back ho he hbd hon _ ih =>
      intro h1
      subst hon
      have := hback' _ _ h1 ho _ he hbd
      exact ih (by omega)
  have hsz' : ∀ d ∈ (l.take n).filterMap (·.dst), d < a.tmps.size := fun d hd => by
    have := List.all_eq_true.1 hsz d hd
    simpa using this
  intro ph f w' hb hj hj2 hd
  have hg : ∀ d ∈ (l.take n).filterMap (·.dst), (fillA a (l.take n) f).tmps.getD d undef = f d := fun d hd => by
    have h1 := fillT_get ((l.take n).filterMap (·.dst)) f a.tmps d
    rw [if_pos (hsz' d hd), if_pos hd] at h1
    unfold fillA
    simp only [Array.getD_eq_getD_getElem?, h1, Option.getD_some]
  have ho : ∀ d, ((l.take n).filterMap (·.dst)).contains d = false → (fillA a (l.take n) f).tmps.getD d undef = a.tmps.getD d undef := fun d hd => by
    have h1 := fillT_get ((l.take n).filterMap (·.dst)) f a.tmps d
    have h2 : d ∉ (l.take n).filterMap (·.dst) := by simpa using hd
    rw [if_neg h2] at h1
    unfold fillA
    simp only [Array.getD_eq_getD_getElem?, h1]
    by_cases hl : d < a.tmps.size
    · rw [if_pos hl]
    · rw [if_neg hl, Array.getElem?_eq_none (Nat.le_of_not_lt hl)]
  have key := h ph (fun d => (fillA a (l.take n) f).tmps.getD d undef) w' hb hj hj2 ho (fun e he hbd hen => hsup _ e.on f _ _ (fun j oj d haj hoj hdj => (hg d (dst_mem hoj (hanc _ _ haj hen) hdj)).symm) (hd e he hbd hen))
  rw [← evL_eval] at key
  refine Oper.wp_mono ?_ key.wp
  rintro a' w'' ⟨v, rfl, hr, hbw⟩
  refine ⟨v, rfl, hsup _ i _ _ _ (fun j oj d haj hoj hdj => ?_) hr, hbw⟩
  have hjn := hanc _ _ haj hi
  have hmem := dst_mem hoj hjn hdj
  cases hdst : o.dst with
  | none => exact hg d hmem
  | some d0 =>
    unfold updO upd
    simp only
    split
    · rfl
    · exact hg d hmem

def atP (Rs : List (Nat → RelP)) (ph : Nat) (i : Nat) : RelP := Rs.getD i (fun _ _ _ => True) ph
/-- One operation: what it says stays, hangs on what came before it alone, and comes. -/
def OpPh (P : Program) (l : List Oper) (n : Nat) (Rs : List (Nat → RelP)) (a : Act) (T : World → Prop) (Eb : Nat → World → World → Prop) (b1 b2 i : Nat) (o : Oper) (p : Nat → RelP) : Prop :=
  (∀ ph g w1 w2, p ph g w1 → Below w1.heap.size w1 w2 → p ph g w2) ∧ (∀ k, k ≤ 1 → i ≠ bkN b1 b2 k → ∀ g w1 w2, p k g w1 → Eb k w1 w2 → p (k + 1) g w2) ∧ (∀ ph g g' w, (∀ j o d, Anc l j i → l[j]? = some o → o.dst = some d → g d = g' d) → p ph g w → p ph g' w) ∧
  ∀ ph g w', T w' → (i = b1 → ph = 0) → (i = b2 → ph = 1) → (∀ d, ((l.take n).filterMap (·.dst)).contains d = false → g d = a.tmps.getD d undef) → Deps n (atP Rs ph) g w' o →
    OpRel P o (evL g) w' fun v w'' => p (stepN b1 b2 i ph) (updO g o.dst v) w'' ∧ ((i ≠ b1 ∧ i ≠ b2 ∧ Below w'.heap.size w' w'') ∨ (i = b1 ∧ Eb 0 w' w'') ∨ (i = b2 ∧ Eb 1 w' w''))
def OpsPh (P : Program) (l : List Oper) (n : Nat) (Rs : List (Nat → RelP)) (a : Act) (T : World → Prop) (Eb : Nat → World → World → Prop) (b1 b2 : Nat) : Nat → List Oper → List (Nat → RelP) → Prop
  | _, [], _ => True
  | _, _ :: _, [] => False
  | i, o :: r, p :: ps => OpPh P l n Rs a T Eb b1 b2 i o p ∧ OpsPh P l n Rs a T Eb b1 b2 (i + 1) r ps
section
variable {Rs : List (Nat → RelP)} {T : World → Prop} {Eb : Nat → World → World → Prop} {b1 b2 : Nat}
theorem OpsPh.at : ∀ {r : List Oper} {ps : List (Nat → RelP)} {k : Nat}, OpsPh P l n Rs a T Eb b1 b2 k r ps → ∀ {j : Nat} {o : Oper}, r[j]? = some o → OpPh P l n Rs a T Eb b1 b2 (k + j) o (ps.getD j (fun _ _ _ => True))
  | [], _, _, _, _, _, h => by simp at h
  | _ :: _, [], _, h, _, _, _ => h.elim
  | x :: r, p :: ps, k, h, 0, o, hj => by
    simp at hj
    subst hj
    exact h.1
  | x :: r, p :: ps, k, h, j + 1, o, hj => by
    have := OpsPh.at h.2 (j := j) (o := o) (by simpa using hj)
    rw [show k + 1 + j = k + (j + 1) by omega] at this
    simpa using this
theorem OpsPh.nil {i : Nat} {ps : List (Nat → RelP)} : OpsPh P l n Rs a T Eb b1 b2 i [] ps := by cases ps <;> trivial
theorem OpsPh.cons {i : Nat} {o : Oper} {r : List Oper} {p : Nat → RelP} {ps : List (Nat → RelP)} (h : OpPh P l n Rs a T Eb b1 b2 i o p) (h' : OpsPh P l n Rs a T Eb b1 b2 (i + 1) r ps) : OpsPh P l n Rs a T Eb b1 b2 i (o :: r) (p :: ps) := ⟨h, h'⟩
end
section
variable {Rs : List (Nat → RelP)} {T : World → Prop} {Eb : Nat → World → World → Prop} {b1 b2 : Nat}
theorem OpPh.val {i d : Nat} {o : Oper} {c : Value} (hi : l[i]? = some o) (ho : o.dst = some d) (hne : i ≠ b1) (hne2 : i ≠ b2)
    (h : ∀ ph g w', T w' → (∀ d, ((l.take n).filterMap (·.dst)).contains d = false → g d = a.tmps.getD d undef) → Deps n (atP Rs ph) g w' o → (execOp (evL g) o).run P w' = .ok (.value c) w') :
    OpPh P l n Rs a T Eb b1 b2 i o (fun _ g _ => g d = c) := by
  refine ⟨fun _ _ _ _ h _ => h, fun _ _ _ _ _ _ h _ => h, fun _ g g' _ he h => (he i o d (Anc.self i) hi ho).symm.trans h, fun ph g w' hb _ _ hout hd => ?_⟩
  unfold OpRel
  rw [h ph g w' hb hout hd]
  refine ⟨?_, .inl ⟨hne, hne2, Below.refl _ _⟩⟩
  rw [ho]
  unfold updO upd
  simp
theorem OpPh.one {i d : Nat} {o : Oper} {p : Nat → Value → World → Prop} (hi : l[i]? = some o) (ho : o.dst = some d) (hne : i ≠ b1) (hne2 : i ≠ b2) (hst : ∀ ph v w1 w2, p ph v w1 → Below w1.heap.size w1 w2 → p ph v w2) (hst2 : ∀ k v w1 w2, k ≤ 1 → p k v w1 → Eb k w1 w2 → p (k + 1) v w2)
    (h : ∀ ph g w', T w' → (∀ d, ((l.take n).filterMap (·.dst)).contains d = false → g d = a.tmps.getD d undef) → Deps n (atP Rs ph) g w' o → OpRel P o (evL g) w' fun v w'' => p ph v w'' ∧ Below w'.heap.size w' w'') :
    OpPh P l n Rs a T Eb b1 b2 i o (fun ph g w => p ph (g d) w) := by
  refine ⟨fun ph g w1 w2 h hb => hst _ _ _ _ h hb, fun k hk _ g w1 w2 h hb => hst2 k _ _ _ hk h hb, fun ph g g' w1 he h => ?_, fun ph g w' hb _ _ hout hd => ?_⟩
  · show p ph (g' d) w1
    rw [← he i o d (Anc.self i) hi ho]
    exact h
  · have h1 := h ph g w' hb hout hd
    unfold stepN
    rw [ho, if_neg hne, if_neg hne2]
    have e : ∀ v, updO g (some d) v d = v := fun v => by unfold updO upd; simp
    simp only [e]
    exact OpRel.mono (fun v w'' h => ⟨h.1, .inl ⟨hne, hne2, h.2⟩⟩) h1
/-- The first operation that writes. -/
theorem OpPh.first {d : Nat} {o : Oper} {p : Nat → Value → World → Prop} (hi : l[b1]? = some o) (ho : o.dst = some d) (hst : ∀ ph v w1 w2, p ph v w1 → Below w1.heap.size w1 w2 → p ph v w2) (hst2 : ∀ v w1 w2, p 1 v w1 → Eb 1 w1 w2 → p 2 v w2)
    (h : ∀ g w', T w' → (∀ d, ((l.take n).filterMap (·.dst)).contains d = false → g d = a.tmps.getD d undef) → Deps n (atP Rs 0) g w' o → OpRel P o (evL g) w' fun v w'' => p 1 v w'' ∧ Eb 0 w' w'') :
    OpPh P l n Rs a T Eb b1 b2 b1 o (fun ph g w => p ph (g d) w) := by
  refine ⟨fun ph g w1 w2 h hb => hst _ _ _ _ h hb, fun k hk hne g w1 w2 h hb => ?_, fun ph g g' w1 he h => ?_, fun ph g w' hb hph _ hout hd => ?_⟩
  · rcases (show k = 0 ∨ k = 1 by omega) with rfl | rfl
    · exact absurd rfl hne
    · exact hst2 _ _ _ h hb
  · show p ph (g' d) w1
    rw [← he b1 o d (Anc.self b1) hi ho]
    exact h
  · obtain rfl := hph rfl
    have h1 := h g w' hb hout hd
    have e1 : stepN b1 b2 b1 0 = 1 := if_pos rfl
    have e : ∀ v, updO g (some d) v d = v := fun v => by unfold updO upd; simp
    rw [ho, e1]
    refine OpRel.mono (fun v w'' h => ⟨?_, .inr (.inl ⟨rfl, h.2⟩)⟩) h1
    show p 1 (updO g (some d) v d) w''
    rw [e]
    exact h.1
/-- The second operation that writes, a store. -/
theorem OpPh.second {o : Oper} {p : (Nat → Value) → World → Prop} (hb12 : b1 ≠ b2) (ho : o.dst = none) (hst : ∀ g w1 w2, p g w1 → Below w1.heap.size w1 w2 → p g w2)
    (hsup : ∀ g g' w, (∀ j o d, Anc l j b2 → l[j]? = some o → o.dst = some d → g d = g' d) → p g w → p g' w)
    (h : ∀ g w', T w' → (∀ d, ((l.take n).filterMap (·.dst)).contains d = false → g d = a.tmps.getD d undef) → Deps n (atP Rs 1) g w' o → OpRel P o (evL g) w' fun _ w'' => p g w'' ∧ Eb 1 w' w'') :
    OpPh P l n Rs a T Eb b1 b2 b2 o (fun ph g w => ph = 2 ∧ p g w) := by
  refine ⟨fun ph g w1 w2 h hb => ⟨h.1, hst _ _ _ h.2 hb⟩, fun k hk hne g w1 w2 h hb => ?_, fun ph g g' w1 he h => ⟨h.1, hsup g g' w1 he h.2⟩, fun ph g w' hb _ hph hout hd => ?_⟩
  · exact absurd h.1 (by omega)
  · obtain rfl := hph rfl
    have h1 := h g w' hb hout hd
    have e1 : stepN b1 b2 b2 1 = 2 := by unfold stepN; rw [if_neg (fun e => hb12 e.symm), if_pos rfl]
    rw [ho, e1]
    exact OpRel.mono (fun v w'' h => ⟨⟨rfl, h.1⟩, .inr (.inr ⟨rfl, h.2⟩)⟩) h1
end
end
end Wh
namespace Wh
open Go Go.RowKit
section
variable {P : Program} {l : List Oper} {n : Nat} {R : Nat → Nat → (Nat → Value) → World → Prop} {Q : Exit → Act → World → Prop} {a : Act} {w : World}
/-- What is to be shown of one operation. -/
def StepD (P : Program) (l : List Oper) (n : Nat) (R : Nat → Nat → (Nat → Value) → World → Prop) (Q : Exit → Act → World → Prop) (a : Act) (T : Nat → World → Prop) (Eb : Nat → World → World → Prop) (b1 b2 i : Nat) (o : Oper) : Prop :=
  ∀ ph f w', T ph w' → (i = b1 → ph = 0) → (i = b2 → ph = 1) → Deps n (R ph) f w' o →
    o.wp P (fillA a (l.take n) f) w' (fun a' w'' => ∃ v, a' = (fillA a (l.take n) f).put o.dst v ∧ R (stepN b1 b2 i ph) i (updO f o.dst v) w'' ∧ ((i ≠ b1 ∧ i ≠ b2 ∧ Below w'.heap.size w' w'') ∨ (i = b1 ∧ Eb 0 w' w'') ∨ (i = b2 ∧ Eb 1 w' w''))) Q
theorem StepD.of {T : Nat → World → Prop} {Eb : Nat → World → World → Prop} {b1 b2 : Nat} {i : Nat} {o : Oper} (hi : i < n) (hB : relB l n = true) (hsz : ((l.take n).filterMap (·.dst)).all (fun d => decide (d < a.tmps.size)) = true)
    (hsup : ∀ ph i g g' w, (∀ j o d, Anc l j i → l[j]? = some o → o.dst = some d → g d = g' d) → R ph i g w → R ph i g' w)
    (h : ∀ ph (g : Nat → Value) w', T ph w' → (i = b1 → ph = 0) → (i = b2 → ph = 1) → (∀ d, ((l.take n).filterMap (·.dst)).contains d = false → g d = a.tmps.getD d undef) → Deps n (R ph) g w' o → OpRel P o (evL g) w' fun v w'' => R (stepN b1 b2 i ph) i (updO g o.dst v) w'' ∧ ((i ≠ b1 ∧ i ≠ b2 ∧ Below w'.heap.size w' w'') ∨ (i = b1 ∧ Eb 0 w' w'') ∨ (i = b2 ∧ Eb 1 w' w''))) :
    StepD P l n R Q a T Eb b1 b2 i o := by
  simp only [relB, Bool.and_eq_true, Bool.or_eq_true, decide_eq_true_eq, List.all_eq_true] at hB
  obtain ⟨_, hback⟩ := hB
  have hback' : ∀ k oe, k < n → l[k]? = some oe → ∀ e ∈ oe.after, Region.binds .any e = true → e.on < k := fun k oe hk hoe e he hbd => by
    have := hback k (List.mem_range.2 hk)
    rw [hoe] at this
    simp only [Option.map_some, Option.getD_some, Array.all_eq_true_iff_forall_mem, Bool.or_eq_true, Bool.not_eq_true', decide_eq_true_eq] at this
    rcases this e he with h | h
    · rw [h] at hbd; cases hbd
    · exact h
  have hanc : ∀ j k, Anc l j k → k < n → j < n := by
    intro j k h
    induction h with
    | self => exact id
    | back ho he hbd hon _ ih =>
      intro h1
      subst hon
      have := hback' _ _ h1 ho _ he hbd
      exact ih (by omega)
  have hsz' : ∀ d ∈ (l.take n).filterMap (·.dst), d < a.tmps.size := fun d hd => by
    have := List.all_eq_true.1 hsz d hd
    simpa using this
  intro ph f w' hb hj hj2 hd
  have hg : ∀ d ∈ (l.take n).filterMap (·.dst), (fillA a (l.take n) f).tmps.getD d undef = f d := fun d hd => by
    have h1 := fillT_get ((l.take n).filterMap (·.dst)) f a.tmps d
    rw [if_pos (hsz' d hd), if_pos hd] at h1
    unfold fillA
    simp only [Array.getD_eq_getD_getElem?, h1, Option.getD_some]
  have ho : ∀ d, ((l.take n).filterMap (·.dst)).contains d = false → (fillA a (l.take n) f).tmps.getD d undef = a.tmps.getD d undef := fun d hd => by
    have h1 := fillT_get ((l.take n).filterMap (·.dst)) f a.tmps d
    have h2 : d ∉ (l.take n).filterMap (·.dst) := by simpa using hd
    rw [if_neg h2] at h1
    unfold fillA
    simp only [Array.getD_eq_getD_getElem?, h1]
    by_cases hl : d < a.tmps.size
    · rw [if_pos hl]
    · rw [if_neg hl, Array.getElem?_eq_none (Nat.le_of_not_lt hl)]
  have key := h ph (fun d => (fillA a (l.take n) f).tmps.getD d undef) w' hb hj hj2 ho (fun e he hbd hen => hsup _ e.on f _ _ (fun j oj d haj hoj hdj => (hg d (dst_mem hoj (hanc _ _ haj hen) hdj)).symm) (hd e he hbd hen))
  rw [← evL_eval] at key
  refine Oper.wp_mono ?_ key.wp
  rintro a' w'' ⟨v, rfl, hr, hbw⟩
  refine ⟨v, rfl, hsup _ i _ _ _ (fun j oj d haj hoj hdj => ?_) hr, hbw⟩
  have hjn := hanc _ _ haj hi
  have hmem := dst_mem hoj hjn hdj
  cases hdst : o.dst with
  | none => exact hg d hmem
  | some d0 =>
    unfold updO upd
    simp only
    split
    · rfl
    · exact hg d hmem

/-- One operation: what it says stays, hangs on what came before it alone, and comes. -/
def OpD (P : Program) (l : List Oper) (n : Nat) (Rs : List (Nat → RelP)) (a : Act) (T : Nat → World → Prop) (Eb : Nat → World → World → Prop) (b1 b2 i : Nat) (o : Oper) (p : Nat → RelP) : Prop :=
  (∀ ph g w1 w2, p ph g w1 → Below w1.heap.size w1 w2 → p ph g w2) ∧ (∀ k, k ≤ 1 → i ≠ bkN b1 b2 k → ∀ g w1 w2, p k g w1 → Eb k w1 w2 → p (k + 1) g w2) ∧ (∀ ph g g' w, (∀ j o d, Anc l j i → l[j]? = some o → o.dst = some d → g d = g' d) → p ph g w → p ph g' w) ∧
  ∀ ph g w', T ph w' → (i = b1 → ph = 0) → (i = b2 → ph = 1) → (∀ d, ((l.take n).filterMap (·.dst)).contains d = false → g d = a.tmps.getD d undef) → Deps n (atP Rs ph) g w' o →
    OpRel P o (evL g) w' fun v w'' => p (stepN b1 b2 i ph) (updO g o.dst v) w'' ∧ ((i ≠ b1 ∧ i ≠ b2 ∧ Below w'.heap.size w' w'') ∨ (i = b1 ∧ Eb 0 w' w'') ∨ (i = b2 ∧ Eb 1 w' w''))
def OpsD (P : Program) (l : List Oper) (n : Nat) (Rs : List (Nat → RelP)) (a : Act) (T : Nat → World → Prop) (Eb : Nat → World → World → Prop) (b1 b2 : Nat) : Nat → List Oper → List (Nat → RelP) → Prop
  | _, [], _ => True
  | _, _ :: _, [] => False
  | i, o :: r, p :: ps => OpD P l n Rs a T Eb b1 b2 i o p ∧ OpsD P l n Rs a T Eb b1 b2 (i + 1) r ps
section
variable {Rs : List (Nat → RelP)} {T : Nat → World → Prop} {Eb : Nat → World → World → Prop} {b1 b2 : Nat}
theorem OpsD.at : ∀ {r : List Oper} {ps : List (Nat → RelP)} {k : Nat}, OpsD P l n Rs a T Eb b1 b2 k r ps → ∀ {j : Nat} {o : Oper}, r[j]? = some o → OpD P l n Rs a T Eb b1 b2 (k + j) o (ps.getD j (fun _ _ _ => True))
  | [], _, _, _, _, _, h => by simp at h
  | _ :: _, [], _, h, _, _, _ => h.elim
  | x :: r, p :: ps, k, h, 0, o, hj => by
    simp at hj
    subst hj
    exact h.1
  | x :: r, p :: ps, k, h, j + 1, o, hj => by
    have := OpsD.at h.2 (j := j) (o := o) (by simpa using hj)
    rw [show k + 1 + j = k + (j + 1) by omega] at this
    simpa using this
theorem OpsD.nil {i : Nat} {ps : List (Nat → RelP)} : OpsD P l n Rs a T Eb b1 b2 i [] ps := by cases ps <;> trivial
theorem OpsD.cons {i : Nat} {o : Oper} {r : List Oper} {p : Nat → RelP} {ps : List (Nat → RelP)} (h : OpD P l n Rs a T Eb b1 b2 i o p) (h' : OpsD P l n Rs a T Eb b1 b2 (i + 1) r ps) : OpsD P l n Rs a T Eb b1 b2 i (o :: r) (p :: ps) := ⟨h, h'⟩
end
section
variable {Rs : List (Nat → RelP)} {T : Nat → World → Prop} {Eb : Nat → World → World → Prop} {b1 b2 : Nat}
theorem OpD.val {i d : Nat} {o : Oper} {c : Value} (hi : l[i]? = some o) (ho : o.dst = some d) (hne : i ≠ b1) (hne2 : i ≠ b2)
    (h : ∀ ph g w', T ph w' → (∀ d, ((l.take n).filterMap (·.dst)).contains d = false → g d = a.tmps.getD d undef) → Deps n (atP Rs ph) g w' o → (execOp (evL g) o).run P w' = .ok (.value c) w') :
    OpD P l n Rs a T Eb b1 b2 i o (fun _ g _ => g d = c) := by
  refine ⟨fun _ _ _ _ h _ => h, fun _ _ _ _ _ _ h _ => h, fun _ g g' _ he h => (he i o d (Anc.self i) hi ho).symm.trans h, fun ph g w' hb _ _ hout hd => ?_⟩
  unfold OpRel
  rw [h ph g w' hb hout hd]
  refine ⟨?_, .inl ⟨hne, hne2, Below.refl _ _⟩⟩
  rw [ho]
  unfold updO upd
  simp
theorem OpD.one {i d : Nat} {o : Oper} {p : Nat → Value → World → Prop} (hi : l[i]? = some o) (ho : o.dst = some d) (hne : i ≠ b1) (hne2 : i ≠ b2) (hst : ∀ ph v w1 w2, p ph v w1 → Below w1.heap.size w1 w2 → p ph v w2) (hst2 : ∀ k v w1 w2, k ≤ 1 → p k v w1 → Eb k w1 w2 → p (k + 1) v w2)
    (h : ∀ ph g w', T ph w' → (∀ d, ((l.take n).filterMap (·.dst)).contains d = false → g d = a.tmps.getD d undef) → Deps n (atP Rs ph) g w' o → OpRel P o (evL g) w' fun v w'' => p ph v w'' ∧ Below w'.heap.size w' w'') :
    OpD P l n Rs a T Eb b1 b2 i o (fun ph g w => p ph (g d) w) := by
  refine ⟨fun ph g w1 w2 h hb => hst _ _ _ _ h hb, fun k hk _ g w1 w2 h hb => hst2 k _ _ _ hk h hb, fun ph g g' w1 he h => ?_, fun ph g w' hb _ _ hout hd => ?_⟩
  · show p ph (g' d) w1
    rw [← he i o d (Anc.self i) hi ho]
    exact h
  · have h1 := h ph g w' hb hout hd
    unfold stepN
    rw [ho, if_neg hne, if_neg hne2]
    have e : ∀ v, updO g (some d) v d = v := fun v => by unfold updO upd; simp
    simp only [e]
    exact OpRel.mono (fun v w'' h => ⟨h.1, .inl ⟨hne, hne2, h.2⟩⟩) h1
/-- The first operation that writes. -/
theorem OpD.first {d : Nat} {o : Oper} {p : Nat → Value → World → Prop} (hi : l[b1]? = some o) (ho : o.dst = some d) (hst : ∀ ph v w1 w2, p ph v w1 → Below w1.heap.size w1 w2 → p ph v w2) (hst2 : ∀ v w1 w2, p 1 v w1 → Eb 1 w1 w2 → p 2 v w2)
    (h : ∀ g w', T 0 w' → (∀ d, ((l.take n).filterMap (·.dst)).contains d = false → g d = a.tmps.getD d undef) → Deps n (atP Rs 0) g w' o → OpRel P o (evL g) w' fun v w'' => p 1 v w'' ∧ Eb 0 w' w'') :
    OpD P l n Rs a T Eb b1 b2 b1 o (fun ph g w => p ph (g d) w) := by
  refine ⟨fun ph g w1 w2 h hb => hst _ _ _ _ h hb, fun k hk hne g w1 w2 h hb => ?_, fun ph g g' w1 he h => ?_, fun ph g w' hb hph _ hout hd => ?_⟩
  · rcases (show k = 0 ∨ k = 1 by omega) with rfl | rfl
    · exact absurd rfl hne
    · exact hst2 _ _ _ h hb
  · show p ph (g' d) w1
    rw [← he b1 o d (Anc.self b1) hi ho]
    exact h
  · obtain rfl := hph rfl
    have h1 := h g w' hb hout hd
    have e1 : stepN b1 b2 b1 0 = 1 := if_pos rfl
    have e : ∀ v, updO g (some d) v d = v := fun v => by unfold updO upd; simp
    rw [ho, e1]
    refine OpRel.mono (fun v w'' h => ⟨?_, .inr (.inl ⟨rfl, h.2⟩)⟩) h1
    show p 1 (updO g (some d) v d) w''
    rw [e]
    exact h.1
/-- The second operation that writes, a store. -/
theorem OpD.second {o : Oper} {p : (Nat → Value) → World → Prop} (hb12 : b1 ≠ b2) (ho : o.dst = none) (hst : ∀ g w1 w2, p g w1 → Below w1.heap.size w1 w2 → p g w2)
    (hsup : ∀ g g' w, (∀ j o d, Anc l j b2 → l[j]? = some o → o.dst = some d → g d = g' d) → p g w → p g' w)
    (h : ∀ g w', T 1 w' → (∀ d, ((l.take n).filterMap (·.dst)).contains d = false → g d = a.tmps.getD d undef) → Deps n (atP Rs 1) g w' o → OpRel P o (evL g) w' fun _ w'' => p g w'' ∧ Eb 1 w' w'') :
    OpD P l n Rs a T Eb b1 b2 b2 o (fun ph g w => ph = 2 ∧ p g w) := by
  refine ⟨fun ph g w1 w2 h hb => ⟨h.1, hst _ _ _ h.2 hb⟩, fun k hk hne g w1 w2 h hb => ?_, fun ph g g' w1 he h => ⟨h.1, hsup g g' w1 he h.2⟩, fun ph g w' hb _ hph hout hd => ?_⟩
  · exact absurd h.1 (by omega)
  · obtain rfl := hph rfl
    have h1 := h g w' hb hout hd
    have e1 : stepN b1 b2 b2 1 = 2 := by unfold stepN; rw [if_neg (fun e => hb12 e.symm), if_pos rfl]
    rw [ho, e1]
    exact OpRel.mono (fun v w'' h => ⟨⟨rfl, h.1⟩, .inr (.inr ⟨rfl, h.2⟩)⟩) h1
end
end
end Wh
