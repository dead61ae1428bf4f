/- Texts of the claim, joined: RelC, RelD, WaveB. -/
import Derived.Test.YtfhfkijmebhgmaaGreatQ09
import Derived.Test.YtfhfkijmebhgmaaGreatQ22
import Derived.Test.YtfhfkijmebhgmaaGreatQ23
import Derived.Test.YtfhfkijmebhgmaaGreatQ10
namespace Wh
open Go Go.RowKit
section
variable {P : Program} {l : List Oper} {n : Nat} {R : Nat → Nat → (Nat → Value) → World → Prop} {Q : Exit → Act → World → Prop} {a : Act} {w : World}
def phN (b1 b2 : Nat) (listed : Array Bool) : Nat := (if listed.getD b1 false = true then 1 else 0) + (if listed.getD b2 false = true then 1 else 0)
def stepN (b1 b2 i ph : Nat) : Nat := if i = b1 then 1 else if i = b2 then 2 else ph
def bkN (b1 b2 k : Nat) : Nat := if k = 0 then b1 else b2
/-- What is to be shown of one operation. -/
def StepPh (P : Program) (l : List Oper) (n : Nat) (R : Nat → Nat → (Nat → Value) → World → Prop) (Q : Exit → Act → World → Prop) (a : Act) (T : World → Prop) (Eb : Nat → World → World → Prop) (b1 b2 i : Nat) (o : Oper) : Prop :=
  ∀ ph f w', T w' → (i = b1 → ph = 0) → (i = b2 → ph = 1) → Deps n (R ph) f w' o →
    o.wp P (fillA a (l.take n) f) w' (fun a' w'' => ∃ v, a' = (fillA a (l.take n) f).put o.dst v ∧ R (stepN b1 b2 i ph) i (updO f o.dst v) w'' ∧ ((i ≠ b1 ∧ i ≠ b2 ∧ Below w'.heap.size w' w'') ∨ (i = b1 ∧ Eb 0 w' w'') ∨ (i = b2 ∧ Eb 1 w' w''))) Q
theorem StepPh.of {T : World → Prop} {Eb : Nat → World → World → Prop} {b1 b2 : Nat} {i : Nat} {o : Oper} (hi : i < n) (hB : relB l n = true) (hsz : ((l.take n).filterMap (·.dst)).all (fun d => decide (d < a.tmps.size)) = true)
    (hsup : ∀ ph i g g' w, (∀ j o d, Anc l j i → l[j]? = some o → o.dst = some d → g d = g' d) → R ph i g w → R ph i g' w)
    (h : ∀ ph (g : Nat → Value) w', T w' → (i = b1 → ph = 0) → (i = b2 → ph = 1) → (∀ d, ((l.take n).filterMap (·.dst)).contains d = false → g d = a.tmps.getD d undef) → Deps n (R ph) g w' o → OpRel P o (evL g) w' fun v w'' => R (stepN b1 b2 i ph) i (updO g o.dst v) w'' ∧ ((i ≠ b1 ∧ i ≠ b2 ∧ Below w'.heap.size w' w'') ∨ (i = b1 ∧ Eb 0 w' w'') ∨ (i = b2 ∧ Eb 1 w' w''))) :
    StepPh P l n R Q a T Eb b1 b2 i o := by
  simp only [relB, Bool.and_eq_true, Bool.or_eq_true, decide_eq_true_eq, List.all_eq_true] at hB
  obtain ⟨_, hback⟩ := hB
  have hback' : ∀ k oe, k < n → l[k]? = some oe → ∀ e ∈ oe.after, Region.binds .any e = true → e.on < k := fun k oe hk hoe e he hbd => by
    have := hback k (List.mem_range.2 hk)
    rw [hoe] at this
    simp only [Option.map_some, Option.getD_some, Array.all_eq_true_iff_forall_mem, Bool.or_eq_true, Bool.not_eq_true', decide_eq_true_eq] at this
    rcases this e he with h | h
    · rw [h] at hbd; cases hbd
    · exact h
  have hanc : ∀ j k, Anc l j k → k < n → j < n := by
    intro j k h
    induction h with
    | self => exact id
    | back ho he hbd hon _ ih =>
      intro h1
      subst hon
      have := hback' _ _ h1 ho _ he hbd
      exact ih (by omega)
  have hsz' : ∀ d ∈ (l.take n).filterMap (·.dst), d < a.tmps.size := fun d hd => by
    have := List.all_eq_true.1 hsz d hd
    simpa using this
  intro ph f w' hb hj hj2 hd
  have hg : ∀ d ∈ (l.take n).filterMap (·.dst), (fillA a (l.take n) f).tmps.getD d undef = f d := fun d hd => by
    have h1 := fillT_get ((l.take n).filterMap (·.dst)) f a.tmps d
    rw [if_pos (hsz' d hd), if_pos hd] at h1
    unfold fillA
    simp only [Array.getD_eq_getD_getElem?, h1, Option.getD_some]
  have ho : ∀ d, ((l.take n).filterMap (·.dst)).contains d = false → (fillA a (l.take n) f).tmps.getD d undef = a.tmps.getD d undef := fun d hd => by
    have h1 := fillT_get ((l.take n).filterMap (·.dst)) f a.tmps d
    have h2 : d ∉ (l.take n).filterMap (·.dst) := by simpa using hd
    rw [if_neg h2] at h1
    unfold fillA
    simp only [Array.getD_eq_getD_getElem?, h1]
    by_cases hl : d < a.tmps.size
    · rw [if_pos hl]
    · rw [if_neg hl, Array.getElem?_eq_none (Nat.le_of_not_lt hl)]
  have key := h ph (fun d => (fillA a (l.take n) f).tmps.getD d undef) w' hb hj hj2 ho (fun e he hbd hen => hsup _ e.on f _ _ (fun j oj d haj hoj hdj => (hg d (dst_mem hoj (hanc _ _ haj hen) hdj)).symm) (hd e he hbd hen))
  rw [← evL_eval] at key
  refine Oper.wp_mono ?_ key.wp
  rintro a' w'' ⟨v, rfl, hr, hbw⟩
  refine ⟨v, rfl, hsup _ i _ _ _ (fun j oj d haj hoj hdj => ?_) hr, hbw⟩
  have hjn := hanc _ _ haj hi
  have hmem := dst_mem hoj hjn hdj
  cases hdst : o.dst with
  | none => exact hg d hmem
  | some d0 =>
    unfold updO upd
    simp only
    split
    · rfl
    · exact hg d hmem

def atP (Rs : List (Nat → RelP)) (ph : Nat) (i : Nat) : RelP := Rs.getD i (fun _ _ _ => True) ph
/-- One operation: what it says stays, hangs on what came before it alone, and comes. -/
def OpPh (P : Program) (l : List Oper) (n : Nat) (Rs : List (Nat → RelP)) (a : Act) (T : World → Prop) (Eb : Nat → World → World → Prop) (b1 b2 i : Nat) (o : Oper) (p : Nat → RelP) : Prop :=
  (∀ ph g w1 w2, p ph g w1 → Below w1.heap.size w1 w2 → p ph g w2) ∧ (∀ k, k ≤ 1 → i ≠ bkN b1 b2 k → ∀ g w1 w2, p k g w1 → Eb k w1 w2 → p (k + 1) g w2) ∧ (∀ ph g g' w, (∀ j o d, Anc l j i → l[j]? = some o → o.dst = some d → g d = g' d) → p ph g w → p ph g' w) ∧
  ∀ ph g w', T w' → (i = b1 → ph = 0) → (i = b2 → ph = 1) → (∀ d, ((l.take n).filterMap (·.dst)).contains d = false → g d = a.tmps.getD d undef) → Deps n (atP Rs ph) g w' o →
    OpRel P o (evL g) w' fun v w'' => p (stepN b1 b2 i ph) (updO g o.dst v) w'' ∧ ((i ≠ b1 ∧ i ≠ b2 ∧ Below w'.heap.size w' w'') ∨ (i = b1 ∧ Eb 0 w' w'') ∨ (i = b2 ∧ Eb 1 w' w''))
def OpsPh (P : Program) (l : List Oper) (n : Nat) (Rs : List (Nat → RelP)) (a : Act) (T : World → Prop) (Eb : Nat → World → World → Prop) (b1 b2 : Nat) : Nat → List Oper → List (Nat → RelP) → Prop
  | _, [], _ => True
  | _, _ :: _, [] => False
  | i, o :: r, p :: ps => OpPh P l n Rs a T Eb b1 b2 i o p ∧ OpsPh P l n Rs a T Eb b1 b2 (i + 1) r ps
section
variable {Rs : List (Nat → RelP)} {T : World → Prop} {Eb : Nat → World → World → Prop} {b1 b2 : Nat}
theorem OpsPh.at : ∀ {r : List Oper} {ps : List (Nat → RelP)} {k : Nat}, OpsPh P l n Rs a T Eb b1 b2 k r ps → ∀ {j : Nat} {o : Oper}, r[j]? = some o → OpPh P l n Rs a T Eb b1 b2 (k + j) o (ps.getD j (fun _ _ _ => True))
  | [], _, _, _, _, _, h => by simp at h
  | _ :: _, [], _, h, _, _, _ => h.elim
  | x :: r, p :: ps, k, h, 0, o, hj => by
    simp at hj
    subst hj
    exact h.1
  | x :: r, p :: ps, k, h, j + 1, o, hj => by
    have := OpsPh.at h.2 (j := j) (o := o) (by simpa using hj)
    rw [show k + 1 + j = k + (j + 1) by omega] at this
    simpa using this
theorem OpsPh.nil {i : Nat} {ps : List (Nat → RelP)} : OpsPh P l n Rs a T Eb b1 b2 i [] ps := by cases ps <;> trivial
theorem OpsPh.cons {i : Nat} {o : Oper} {r : List Oper} {p : Nat → RelP} {ps : List (Nat → RelP)} (h : OpPh P l n Rs a T Eb b1 b2 i o p) (h' : OpsPh P l n Rs a T Eb b1 b2 (i + 1) r ps) : OpsPh P l n Rs a T Eb b1 b2 i (o :: r) (p :: ps) := ⟨h, h'⟩
end
section
variable {Rs : List (Nat → RelP)} {T : World → Prop} {Eb : Nat → World → World → Prop} {b1 b2 : Nat}
theorem OpPh.val {i d : Nat} {o : Oper} {c : Value} (hi : l[i]? = some o) (ho : o.dst = some d) (hne : i ≠ b1) (hne2 : i ≠ b2)
    (h : ∀ ph g w', T w' → (∀ d, ((l.take n).filterMap (·.dst)).contains d = false → g d = a.tmps.getD d undef) → Deps n (atP Rs ph) g w' o → (execOp (evL g) o).run P w' = .ok (.value c) w') :
    OpPh P l n Rs a T Eb b1 b2 i o (fun _ g _ => g d = c) := by
  refine ⟨fun _ _ _ _ h _ => h, fun _ _ _ _ _ _ h _ => h, fun _ g g' _ he h => (he i o d (Anc.self i) hi ho).symm.trans h, fun ph g w' hb _ _ hout hd => ?_⟩
  unfold OpRel
  rw [h ph g w' hb hout hd]
  refine ⟨?_, .inl ⟨hne, hne2, Below.refl _ _⟩⟩
  rw [ho]
  unfold updO upd
  simp
theorem OpPh.one {i d : Nat} {o : Oper} {p : Nat → Value → World → Prop} (hi : l[i]? = some o) (ho : o.dst = some d) (hne : i ≠ b1) (hne2 : i ≠ b2) (hst : ∀ ph v w1 w2, p ph v w1 → Below w1.heap.size w1 w2 → p ph v w2) (hst2 : ∀ k v w1 w2, k ≤ 1 → p k v w1 → Eb k w1 w2 → p (k + 1) v w2)
    (h : ∀ ph g w', T w' → (∀ d, ((l.take n).filterMap (·.dst)).contains d = false → g d = a.tmps.getD d undef) → Deps n (atP Rs ph) g w' o → OpRel P o (evL g) w' fun v w'' => p ph v w'' ∧ Below w'.heap.size w' w'') :
    OpPh P l n Rs a T Eb b1 b2 i o (fun ph g w => p ph (g d) w) := by
  refine ⟨fun ph g w1 w2 h hb => hst _ _ _ _ h hb, fun k hk _ g w1 w2 h hb => hst2 k _ _ _ hk h hb, fun ph g g' w1 he h => ?_, fun ph g w' hb _ _ hout hd => ?_⟩
  · show p ph (g' d) w1
    rw [← he i o d (Anc.self i) hi ho]
    exact h
  · have h1 := h ph g w' hb hout hd
    unfold stepN
    rw [ho, if_neg hne, if_neg hne2]
    have e : ∀ v, updO g (some d) v d = v := fun v => by unfold updO upd; simp
    simp only [e]
    exact OpRel.mono (fun v w'' h => ⟨h.1, .inl ⟨hne, hne2, h.2⟩⟩) h1
/-- The first operation that writes. -/
theorem OpPh.first {d : Nat} {o : Oper} {p : Nat → Value → World → Prop} (hi : l[b1]? = some o) (ho : o.dst = some d) (hst : ∀ ph v w1 w2, p ph v w1 → Below w1.heap.size w1 w2 → p ph v w2) (hst2 : ∀ v w1 w2, p 1 v w1 → Eb 1 w1 w2 → p 2 v w2)
    (h : ∀ g w', T w' → (∀ d, ((l.take n).filterMap (·.dst)).contains d = false → g d = a.tmps.getD d undef) → Deps n (atP Rs 0) g w' o → OpRel P o (evL g) w' fun v w'' => p 1 v w'' ∧ Eb 0 w' w'') :
    OpPh P l n Rs a T Eb b1 b2 b1 o (fun ph g w => p ph (g d) w) := by
  refine ⟨fun ph g w1 w2 h hb => hst _ _ _ _ h hb, fun k hk hne g w1 w2 h hb => ?_, fun ph g g' w1 he h => ?_, fun ph g w' hb hph _ hout hd => ?_⟩
  · rcases (show k = 0 ∨ k = 1 by omega) with rfl | rfl
    · exact absurd rfl hne
    · exact hst2 _ _ _ h hb
  · show p ph (g' d) w1
    rw [← he b1 o d (Anc.self b1) hi ho]
    exact h
  · obtain rfl := hph rfl
    have h1 := h g w' hb hout hd
    have e1 : stepN b1 b2 b1 0 = 1 := if_pos rfl
    have e : ∀ v, updO g (some d) v d = v := fun v => by unfold updO upd; simp
    rw [ho, e1]
    refine OpRel.mono (fun v w'' h => ⟨?_, .inr (.inl ⟨rfl, h.2⟩)⟩) h1
    show p 1 (updO g (some d) v d) w''
    rw [e]
    exact h.1
/-- The second operation that writes, a store. -/
theorem OpPh.second {o : Oper} {p : (Nat → Value) → World → Prop} (hb12 : b1 ≠ b2) (ho : o.dst = none) (hst : ∀ g w1 w2, p g w1 → Below w1.heap.size w1 w2 → p g w2)
    (hsup : ∀ g g' w, (∀ j o d, Anc l j b2 → l[j]? = some o → o.dst = some d → g d = g' d) → p g w → p g' w)
    (h : ∀ g w', T w' → (∀ d, ((l.take n).filterMap (·.dst)).contains d = false → g d = a.tmps.getD d undef) → Deps n (atP Rs 1) g w' o → OpRel P o (evL g) w' fun _ w'' => p g w'' ∧ Eb 1 w' w'') :
    OpPh P l n Rs a T Eb b1 b2 b2 o (fun ph g w => ph = 2 ∧ p g w) := by
  refine ⟨fun ph g w1 w2 h hb => ⟨h.1, hst _ _ _ h.2 hb⟩, fun k hk hne g w1 w2 h hb => ?_, fun ph g g' w1 he h => ⟨h.1, hsup g g' w1 he h.2⟩, fun ph g w' hb _ hph hout hd => ?_⟩
  · exact absurd h.1 (by omega)
  · obtain rfl := hph rfl
    have h1 := h g w' hb hout hd
    have e1 : stepN b1 b2 b2 1 = 2 := by unfold stepN; rw [if_neg (fun e => hb12 e.symm), if_pos rfl]
    rw [ho, e1]
    exact OpRel.mono (fun v w'' h => ⟨⟨rfl, h.1⟩, .inr (.inr ⟨rfl, h.2⟩)⟩) h1
end
end
end Wh
namespace Wh
open Go Go.RowKit
section
variable {P : Program} {l : List Oper} {n : Nat} {R : Nat → Nat → (Nat → Value) → World → Prop} {Q : Exit → Act → World → Prop} {a : Act} {w : World}
/-- What is to be shown of one operation. -/
def StepD (P : Program) (l : List Oper) (n : Nat) (R : Nat → Nat → (Nat → Value) → World → Prop) (Q : Exit → Act → World → Prop) (a : Act) (T : Nat → World → Prop) (Eb : Nat → World → World → Prop) (b1 b2 i : Nat) (o : Oper) : Prop :=
  ∀ ph f w', T ph w' → (i = b1 → ph = 0) → (i = b2 → ph = 1) → Deps n (R ph) f w' o →
    o.wp P (fillA a (l.take n) f) w' (fun a' w'' => ∃ v, a' = (fillA a (l.take n) f).put o.dst v ∧ R (stepN b1 b2 i ph) i (updO f o.dst v) w'' ∧ ((i ≠ b1 ∧ i ≠ b2 ∧ Below w'.heap.size w' w'') ∨ (i = b1 ∧ Eb 0 w' w'') ∨ (i = b2 ∧ Eb 1 w' w''))) Q
theorem ph_runD {T : Nat → World → Prop} {Eb : Nat → World → World → Prop} {b1 b2 : Nat} (hb12 : b1 ≠ b2) (h1n : b1 < n) (h2n : b2 < n) (hw : ∀ o, l[b2]? = some o → ∃ e ∈ o.after, Region.binds .any e = true ∧ e.on = b1) (hT1 : ∀ ph w1 w2, T ph w1 → Below w1.heap.size w1 w2 → T ph w2) (hT2 : ∀ k w1 w2, k ≤ 1 → T k w1 → Eb k w1 w2 → T (k + 1) w2) (hle : n ≤ l.length) (hwait : ∀ listed, HeadInv .any l.toArray n listed → ∀ i, i < n → listed.getD i true = false → ∀ t, n ≤ t → t ∉ Region.ready .any l.toArray listed) (hseq : Region.seqB .any l.toArray (l.length - n) n (heads l.length n) = true)
    (hg : ∀ i o, i < n → l[i]? = some o → o.guard = none) (hnd : ((l.take n).filterMap (·.dst)).Nodup) (hback : ∀ i o, i < n → l[i]? = some o → ∀ e ∈ o.after, Region.binds .any e = true → e.on < i)
    (hst : ∀ ph i g w1 w2, R ph i g w1 → Below w1.heap.size w1 w2 → R ph i g w2) (hst2 : ∀ k i g w1 w2, k ≤ 1 → i ≠ bkN b1 b2 k → R k i g w1 → Eb k w1 w2 → R (k + 1) i g w2) (hsup : ∀ ph i g g' w, (∀ j o d, Anc l j i → l[j]? = some o → o.dst = some d → g d = g' d) → R ph i g w → R ph i g' w) (hsteps : ∀ i o, i < n → l[i]? = some o → StepD P l n R Q a T Eb b1 b2 i o)
    (hend : ∀ f w', T 2 w' → (∀ i, i < n → R 2 i f w') → wpList P l.toArray Q (l.drop n) (fillA a (l.take n) f) w') :
    ∀ (k : Nat) (listed : Array Bool) (f : Nat → Value) (w' : World), HeadInv .any l.toArray n listed → unl listed n = k → T (phN b1 b2 listed) w' → (∀ i, i < n → listed.getD i false = true → R (phN b1 b2 listed) i f w') →
      wpAny P .any l.toArray Q (k + (l.length - n)) listed (fillA a (l.take n) f) w'
  | 0, listed, f, w', inv, hk, hb, hR => by
    have hsz : listed.size = l.length := by rw [inv.size]; simp
    have he : listed = heads l.length n := by
      apply Array.ext_getElem?
      intro i
      unfold heads
      rw [Array.getElem?_append]
      simp only [Array.size_replicate]
      by_cases hi : i < n
      · rw [if_pos hi]
        have h1 := unl_zero hk hi
        have h2 : i < listed.size := by omega
        simp [hi, h2, Array.getD] at h1 ⊢
        exact h1
      · rw [if_neg hi]
        by_cases hl : i < l.length
        · have h1 := inv.tail i (by omega) (by simpa using hl)
          have h2 : i < listed.size := by omega
          have h3 : i - n < l.length - n := by omega
          simp [h2, h3, Array.getD] at h1 ⊢
          exact h1
        · rw [Array.getElem?_eq_none (by omega), Array.getElem?_eq_none (by simp; omega)]
    have hd : l.length - n = (l.drop n).length := by simp
    have h3 : phN b1 b2 listed = 2 := by
      have key : ∀ b, b < n → listed.getD b false = true := fun b hb => by
        have h1 := unl_zero hk hb
        have h2 : b < listed.size := by omega
        simp [h2, Array.getD] at h1 ⊢
        exact h1
      unfold phN
      rw [if_pos (key _ h1n), if_pos (key _ h2n)]
    rw [h3] at hR hb
    rw [Nat.zero_add, hd]
    refine wpAny_of_seq (l.drop n) n listed _ w' (fun j => by simp [List.getElem?_drop]) (by rw [he, ← hd]; exact hseq) (hend f w' hb fun i hin => hR i hin ?_)
    have h1 := unl_zero hk hin
    have h2 : i < listed.size := by omega
    simp [h2, Array.getD] at h1 ⊢
    exact h1
  | k + 1, listed, f, w', inv, hk, hb, hR => by
    have hsz : listed.size = l.length := by rw [inv.size]; simp
    obtain ⟨i0, hi0, hu0⟩ := unl_pos (show 0 < unl listed n by omega)
    have hne : ∀ i, i < n → listed.getD i true = false → Region.ready .any l.toArray listed ≠ [] := by
      intro i
      induction i using Nat.strongRecOn with
      | _ i ih =>
        intro hin hu
        have hil : i < l.length := by omega
        by_cases hall : ∀ e ∈ (l[i]).after, Region.binds .any e = true → listed.getD e.on false = true
        · have : i ∈ Region.ready .any l.toArray listed := mem_ready.2 ⟨hu, l[i], by simp [hil], hall⟩
          intro h0
          rw [h0] at this
          cases this
        · simp only [Classical.not_forall] at hall
          obtain ⟨e, he, hbd, hno⟩ := hall
          have hlt := hback i l[i] hin (by simp [hil]) e he hbd
          exact ih e.on hlt (by omega) (getD_in (by omega) (by simpa using hno))
    rw [show k + 1 + (l.length - n) = (k + (l.length - n)) + 1 by omega]
    refine ⟨fun h0 => absurd h0 (hne i0 hi0 hu0), fun i hi => ?_⟩
    have hin : i < n := by
      rcases Nat.lt_or_ge i n with h | h
      · exact h
      · exact absurd hi (hwait listed inv i0 hi0 hu0 i h)
    obtain ⟨hu, o, ho, hall⟩ := mem_ready.1 hi
    have ho' : l[i]? = some o := by simpa using ho
    have hgd := hg i o hin ho'
    have hoff : i = b1 → listed.getD b1 false = false ∧ listed.getD b2 false = false := fun e => by
      have h1 : listed.getD b1 false = false := by rw [← e]; exact getD_both hu
      refine ⟨h1, ?_⟩
      cases h2 : listed.getD b2 false
      · rfl
      · have hl2 : b2 < l.length := by omega
        obtain ⟨e', he', hbd, hon⟩ := hw l[b2] (by simp [hl2])
        have := inv.closed b2 l[b2] (by simp [hl2]) h2 e' he' hbd
        rw [hon, h1] at this
        cases this
    have hoff2 : i = b2 → listed.getD b1 false = true ∧ listed.getD b2 false = false := fun e => by
      have h2 : listed.getD b2 false = false := by rw [← e]; exact getD_both hu
      obtain ⟨e', he', hbd, hon⟩ := hw o (by rw [← e]; exact ho')
      have := hall e' he' hbd
      rw [hon] at this
      exact ⟨this, h2⟩
    have hph1 : i = b1 → phN b1 b2 listed = 0 := fun e => by
      obtain ⟨h1, h2⟩ := hoff e
      unfold phN
      rw [h1, h2]
      rfl
    have hph2 : i = b2 → phN b1 b2 listed = 1 := fun e => by
      obtain ⟨h1, h2⟩ := hoff2 e
      unfold phN
      rw [h1, h2]
      rfl
    have h1 := hsteps i o hin ho' (phN b1 b2 listed) f w' hb hph1 hph2 fun e he hbd hen => hR e.on hen (hall e he hbd)
    unfold wpOp
    simp only [ho]
    rw [if_pos (by simp [Region.wanted, hgd])]
    refine .inl (Oper.wp_mono ?_ h1)
    rintro a' w'' ⟨v, rfl, hv, hbw⟩
    have hcount : unl (listed.setIfInBounds i true) n = k := by
      have := unl_set hu n
      rw [if_pos hin] at this
      omega
    have hb2 : T (stepN b1 b2 i (phN b1 b2 listed)) w'' := by
      rcases hbw with ⟨hne, hne2, hbw⟩ | ⟨he, hbw⟩ | ⟨he, hbw⟩
      · unfold stepN
        rw [if_neg hne, if_neg hne2]
        exact hT1 _ _ _ hb hbw
      · rw [hph1 he] at hb
        unfold stepN
        rw [if_pos he]
        exact hT2 0 _ _ (by omega) hb hbw
      · rw [hph2 he] at hb
        unfold stepN
        rw [if_neg (fun e => hb12 (e.symm.trans he)), if_pos he]
        exact hT2 1 _ _ (by omega) hb hbw
    have hph : phN b1 b2 (listed.setIfInBounds i true) = stepN b1 b2 i (phN b1 b2 listed) := by
      unfold phN stepN
      by_cases e1 : i = b1
      · obtain ⟨q1, q2⟩ := hoff e1
        subst e1
        rw [getD_set_self false (lt_of_unl hu), getD_set_ne false hb12, q2]
        simp
      · by_cases e2 : i = b2
        · obtain ⟨q1, q2⟩ := hoff2 e2
          subst e2
          rw [getD_set_self false (lt_of_unl hu), getD_set_ne false e1, q1]
          simp [e1]
        · rw [getD_set_ne false e1, getD_set_ne false e2, if_neg e1, if_neg e2]
    have hanc : ∀ j k, Anc l j k → k < n → listed.getD k false = true → j < n ∧ listed.getD j false = true := by
      intro j k h
      induction h with
      | self => exact fun h1 h2 => ⟨h1, h2⟩
      | back ho he hbd hon _ ih =>
        intro h1 h2
        subst hon
        have := hback _ _ h1 ho _ he hbd
        exact ih (by omega) (inv.closed _ _ (by simpa using ho) h2 _ he hbd)
    have hfin : (fillA a (l.take n) f).put o.dst v = fillA a (l.take n) (updO f o.dst v) := by
      cases hdst : o.dst with
      | none => rfl
      | some d0 =>
        unfold fillA Act.put updO
        simp only
        rw [fillT_put (dst_mem ho' hin hdst)]
    rw [hfin]
    refine ph_runD hb12 h1n h2n hw hT1 hT2 hle hwait hseq hg hnd hback hst hst2 hsup hsteps hend k _ (updO f o.dst v) w'' (inv.set hi hin) hcount (by rw [hph]; exact hb2) fun j hjn hl => ?_
    rw [hph]
    by_cases hij : i = j
    · subst hij
      exact hv
    · rw [getD_set_ne false hij] at hl
      refine hsup _ j f _ _ (fun j' oj d haj hoj hd => ?_) (by
        rcases hbw with ⟨hne, hne2, hbw⟩ | ⟨he, hbw⟩ | ⟨he, hbw⟩
        · unfold stepN
          rw [if_neg hne, if_neg hne2]
          exact hst _ _ _ _ _ (hR j hjn hl) hbw
        · have h0 := hR j hjn hl
          rw [hph1 he] at h0
          unfold stepN
          rw [if_pos he]
          exact hst2 0 _ _ _ _ (by omega) (fun e => hij (by rw [e]; exact he)) h0 hbw
        · have h0 := hR j hjn hl
          rw [hph2 he] at h0
          unfold stepN
          rw [if_neg (fun e => hb12 (e.symm.trans he)), if_pos he]
          exact hst2 1 _ _ _ _ (by omega) (fun e => hij (by rw [e]; exact he)) h0 hbw)
      obtain ⟨hjn', hlj'⟩ := hanc _ _ haj hjn hl
      cases hdst : o.dst with
      | none => rfl
      | some d0 =>
        have hne : i ≠ j' := fun e => by
          subst e
          rw [getD_both hu] at hlj'
          cases hlj'
        have hdd := dst_ne hnd ho' hin hdst hoj hjn' hd hne
        unfold updO upd
        simp only
        rw [if_neg (fun e => hdd e.symm)]

theorem wp_region_phD (n : Nat) (T : Nat → World → Prop) (Eb : Nat → World → World → Prop) (b1 b2 : Nat) (hb12 : b1 ≠ b2) (h1n : b1 < n) (h2n : b2 < n) (hw : ∀ o, l[b2]? = some o → ∃ e ∈ o.after, Region.binds .any e = true ∧ e.on = b1) (R : Nat → Nat → (Nat → Value) → World → Prop) {id : Nat} (hm : P.follows .mixedOrders = true) (hB : relB l n = true) (hT1 : ∀ ph w1 w2, T ph w1 → Below w1.heap.size w1 w2 → T ph w2) (hT2 : ∀ k w1 w2, k ≤ 1 → T k w1 → Eb k w1 w2 → T (k + 1) w2) (hT0 : T 0 w.drew)
    (hst : ∀ ph i g w1 w2, R ph i g w1 → Below w1.heap.size w1 w2 → R ph i g w2) (hst2 : ∀ k i g w1 w2, k ≤ 1 → i ≠ bkN b1 b2 k → R k i g w1 → Eb k w1 w2 → R (k + 1) i g w2)
    (hsup : ∀ ph i g g' w, (∀ j o d, Anc l j i → l[j]? = some o → o.dst = some d → g d = g' d) → R ph i g w → R ph i g' w) (hsteps : ∀ i o, i < n → l[i]? = some o → StepD P l n R Q a T Eb b1 b2 i o)
    (hend : ∀ f w', T 2 w' → (∀ i, i < n → R 2 i f w') → wpList P l.toArray Q (l.drop n) (fillA a (l.take n) f) w') : (Code.region id l.toArray true).wp P Q a w := by
  simp only [relB, Bool.and_eq_true, Bool.or_eq_true, decide_eq_true_eq, List.all_eq_true] at hB
  obtain ⟨⟨⟨⟨hww, hseq⟩, hg⟩, hnd⟩, hback⟩ := hB
  have hle : n ≤ l.length := by rcases hww with h | h <;> omega
  have hat : ∀ i o, i < n → l[i]? = some o → o ∈ l.take n := fun i o hin hi => by
    rw [List.mem_iff_getElem?]
    exact ⟨i, by rw [List.getElem?_take]; simp [hin, hi]⟩
  refine wp_region_any hm ?_
  have H := ph_runD (P := P) (Q := Q) (a := a) hb12 h1n h2n hw hT1 hT2 hle ?_ hseq (fun i o hin hi => by simpa using hg o (hat i o hin hi)) hnd ?_ hst hst2 hsup hsteps hend n (Array.replicate l.toArray.size false) (fun d => a.tmps.getD d undef) w.drew
    ⟨by simp, fun j oj _ hl => (by rw [getD_replicate_false] at hl; cases hl), fun t _ ht => getD_in (by simpa using ht) (getD_replicate_false _ _)⟩ ?_ (by have e : phN b1 b2 (Array.replicate l.toArray.size false) = 0 := (by unfold phN; rw [getD_replicate_false, getD_replicate_false]; rfl); rw [e]; exact hT0) (fun i _ hl => by rw [getD_replicate_false] at hl; cases hl)
  · have e : fillA a (l.take n) (fun d => a.tmps.getD d undef) = a := by
      unfold fillA
      rw [fillT_self]
    rw [e] at H
    have hs : n + (l.length - n) = l.toArray.size := by simp; omega
    rw [hs] at H
    exact H
  · intro listed inv i hin hu t ht hr
    rcases hww with h | ⟨⟨h1, h2⟩, h3⟩
    · obtain ⟨_, o, ho, _⟩ := mem_ready.1 hr
      have := (Array.getElem?_eq_some_iff.1 ho).1
      simp at this
      omega
    · exact tail_waits h2 h3 (by simpa using h1) inv (n - i) i rfl hin hu t ht hr
  · intro i o hin hi e he hbd
    have := hback i (List.mem_range.2 hin)
    rw [hi] at this
    simp only [Option.map_some, Option.getD_some, Array.all_eq_true_iff_forall_mem, Bool.or_eq_true, Bool.not_eq_true', decide_eq_true_eq] at this
    rcases this e he with h | h
    · rw [h] at hbd; cases hbd
    · exact h
  · have key : ∀ m, m ≤ l.length → unl (Array.replicate l.toArray.size false) m = m := by
      intro m
      induction m with
      | zero => intro _; rfl
      | succ m ih =>
        intro hm
        have := ih (by omega)
        unfold unl at this ⊢
        have hml : m < l.length := by omega
        rw [List.range_succ, List.countP_append, this]
        simp [hml]
    exact key n hle
theorem StepD.of {T : Nat → World → Prop} {Eb : Nat → World → World → Prop} {b1 b2 : Nat} {i : Nat} {o : Oper} (hi : i < n) (hB : relB l n = true) (hsz : ((l.take n).filterMap (·.dst)).all (fun d => decide (d < a.tmps.size)) = true)
    (hsup : ∀ ph i g g' w, (∀ j o d, Anc l j i → l[j]? = some o → o.dst = some d → g d = g' d) → R ph i g w → R ph i g' w)
    (h : ∀ ph (g : Nat → Value) w', T ph w' → (i = b1 → ph = 0) → (i = b2 → ph = 1) → (∀ d, ((l.take n).filterMap (·.dst)).contains d = false → g d = a.tmps.getD d undef) → Deps n (R ph) g w' o → OpRel P o (evL g) w' fun v w'' => R (stepN b1 b2 i ph) i (updO g o.dst v) w'' ∧ ((i ≠ b1 ∧ i ≠ b2 ∧ Below w'.heap.size w' w'') ∨ (i = b1 ∧ Eb 0 w' w'') ∨ (i = b2 ∧ Eb 1 w' w''))) :
    StepD P l n R Q a T Eb b1 b2 i o := by
  simp only [relB, Bool.and_eq_true, Bool.or_eq_true, decide_eq_true_eq, List.all_eq_true] at hB
  obtain ⟨_, hback⟩ := hB
  have hback' : ∀ k oe, k < n → l[k]? = some oe → ∀ e ∈ oe.after, Region.binds .any e = true → e.on < k := fun k oe hk hoe e he hbd => by
    have := hback k (List.mem_range.2 hk)
    rw [hoe] at this
    simp only [Option.map_some, Option.getD_some, Array.all_eq_true_iff_forall_mem, Bool.or_eq_true, Bool.not_eq_true', decide_eq_true_eq] at this
    rcases this e he with h | h
    · rw [h] at hbd; cases hbd
    · exact h
  have hanc : ∀ j k, Anc l j k → k < n → j < n := by
    intro j k h
    induction h with
    | self => exact id
    | back ho he hbd hon _ ih =>
      intro h1
      subst hon
      have := hback' _ _ h1 ho _ he hbd
      exact ih (by omega)
  have hsz' : ∀ d ∈ (l.take n).filterMap (·.dst), d < a.tmps.size := fun d hd => by
    have := List.all_eq_true.1 hsz d hd
    simpa using this
  intro ph f w' hb hj hj2 hd
  have hg : ∀ d ∈ (l.take n).filterMap (·.dst), (fillA a (l.take n) f).tmps.getD d undef = f d := fun d hd => by
    have h1 := fillT_get ((l.take n).filterMap (·.dst)) f a.tmps d
    rw [if_pos (hsz' d hd), if_pos hd] at h1
    unfold fillA
    simp only [Array.getD_eq_getD_getElem?, h1, Option.getD_some]
  have ho : ∀ d, ((l.take n).filterMap (·.dst)).contains d = false → (fillA a (l.take n) f).tmps.getD d undef = a.tmps.getD d undef := fun d hd => by
    have h1 := fillT_get ((l.take n).filterMap (·.dst)) f a.tmps d
    have h2 : d ∉ (l.take n).filterMap (·.dst) := by simpa using hd
    rw [if_neg h2] at h1
    unfold fillA
    simp only [Array.getD_eq_getD_getElem?, h1]
    by_cases hl : d < a.tmps.size
    · rw [if_pos hl]
    · rw [if_neg hl, Array.getElem?_eq_none (Nat.le_of_not_lt hl)]
  have key := h ph (fun d => (fillA a (l.take n) f).tmps.getD d undef) w' hb hj hj2 ho (fun e he hbd hen => hsup _ e.on f _ _ (fun j oj d haj hoj hdj => (hg d (dst_mem hoj (hanc _ _ haj hen) hdj)).symm) (hd e he hbd hen))
  rw [← evL_eval] at key
  refine Oper.wp_mono ?_ key.wp
  rintro a' w'' ⟨v, rfl, hr, hbw⟩
  refine ⟨v, rfl, hsup _ i _ _ _ (fun j oj d haj hoj hdj => ?_) hr, hbw⟩
  have hjn := hanc _ _ haj hi
  have hmem := dst_mem hoj hjn hdj
  cases hdst : o.dst with
  | none => exact hg d hmem
  | some d0 =>
    unfold updO upd
    simp only
    split
    · rfl
    · exact hg d hmem

/-- One operation: what it says stays, hangs on what came before it alone, and comes. -/
def OpD (P : Program) (l : List Oper) (n : Nat) (Rs : List (Nat → RelP)) (a : Act) (T : Nat → World → Prop) (Eb : Nat → World → World → Prop) (b1 b2 i : Nat) (o : Oper) (p : Nat → RelP) : Prop :=
  (∀ ph g w1 w2, p ph g w1 → Below w1.heap.size w1 w2 → p ph g w2) ∧ (∀ k, k ≤ 1 → i ≠ bkN b1 b2 k → ∀ g w1 w2, p k g w1 → Eb k w1 w2 → p (k + 1) g w2) ∧ (∀ ph g g' w, (∀ j o d, Anc l j i → l[j]? = some o → o.dst = some d → g d = g' d) → p ph g w → p ph g' w) ∧
  ∀ ph g w', T ph w' → (i = b1 → ph = 0) → (i = b2 → ph = 1) → (∀ d, ((l.take n).filterMap (·.dst)).contains d = false → g d = a.tmps.getD d undef) → Deps n (atP Rs ph) g w' o →
    OpRel P o (evL g) w' fun v w'' => p (stepN b1 b2 i ph) (updO g o.dst v) w'' ∧ ((i ≠ b1 ∧ i ≠ b2 ∧ Below w'.heap.size w' w'') ∨ (i = b1 ∧ Eb 0 w' w'') ∨ (i = b2 ∧ Eb 1 w' w''))
def OpsD (P : Program) (l : List Oper) (n : Nat) (Rs : List (Nat → RelP)) (a : Act) (T : Nat → World → Prop) (Eb : Nat → World → World → Prop) (b1 b2 : Nat) : Nat → List Oper → List (Nat → RelP) → Prop
  | _, [], _ => True
  | _, _ :: _, [] => False
  | i, o :: r, p :: ps => OpD P l n Rs a T Eb b1 b2 i o p ∧ OpsD P l n Rs a T Eb b1 b2 (i + 1) r ps
section
variable {Rs : List (Nat → RelP)} {T : Nat → World → Prop} {Eb : Nat → World → World → Prop} {b1 b2 : Nat}
theorem OpsD.at : ∀ {r : List Oper} {ps : List (Nat → RelP)} {k : Nat}, OpsD P l n Rs a T Eb b1 b2 k r ps → ∀ {j : Nat} {o : Oper}, r[j]? = some o → OpD P l n Rs a T Eb b1 b2 (k + j) o (ps.getD j (fun _ _ _ => True))
  | [], _, _, _, _, _, h => by simp at h
  | _ :: _, [], _, h, _, _, _ => h.elim
  | x :: r, p :: ps, k, h, 0, o, hj => by
    simp at hj
    subst hj
    exact h.1
  | x :: r, p :: ps, k, h, j + 1, o, hj => by
    have := OpsD.at h.2 (j := j) (o := o) (by simpa using hj)
    rw [show k + 1 + j = k + (j + 1) by omega] at this
    simpa using this
theorem OpsD.nil {i : Nat} {ps : List (Nat → RelP)} : OpsD P l n Rs a T Eb b1 b2 i [] ps := by cases ps <;> trivial
theorem OpsD.cons {i : Nat} {o : Oper} {r : List Oper} {p : Nat → RelP} {ps : List (Nat → RelP)} (h : OpD P l n Rs a T Eb b1 b2 i o p) (h' : OpsD P l n Rs a T Eb b1 b2 (i + 1) r ps) : OpsD P l n Rs a T Eb b1 b2 i (o :: r) (p :: ps) := ⟨h, h'⟩
end
theorem wp_region_opsD (n : Nat) (T : Nat → World → Prop) (Eb : Nat → World → World → Prop) (b1 b2 : Nat) (hb12 : b1 ≠ b2) (h1n : b1 < n) (h2n : b2 < n) (hw : ∀ o, l[b2]? = some o → ∃ e ∈ o.after, Region.binds .any e = true ∧ e.on = b1) (Rs : List (Nat → RelP)) {id : Nat} (hm : P.follows .mixedOrders = true) (hB : relB l n = true) (hn : Rs.length = n) (hsz : ((l.take n).filterMap (·.dst)).all (fun d => decide (d < a.tmps.size)) = true)
    (hT1 : ∀ ph w1 w2, T ph w1 → Below w1.heap.size w1 w2 → T ph w2) (hT2 : ∀ k w1 w2, k ≤ 1 → T k w1 → Eb k w1 w2 → T (k + 1) w2) (hT0 : T 0 w.drew)
    (hops : OpsD P l n Rs a T Eb b1 b2 0 (l.take n) Rs) (hend : ∀ f w', T 2 w' → AllR (Rs.map fun p => p 2) f w' → wpList P l.toArray Q (l.drop n) (fillA a (l.take n) f) w') : (Code.region id l.toArray true).wp P Q a w := by
  have hle : n ≤ l.length := by
    have := hB
    simp only [relB, Bool.and_eq_true, Bool.or_eq_true, decide_eq_true_eq] at this
    rcases this.1.1.1.1 with h | h <;> omega
  have hat : ∀ i, i < n → ∃ o, l[i]? = some o ∧ OpD P l n Rs a T Eb b1 b2 i o (fun ph => atP Rs ph i) := fun i hi => by
    have hil : i < l.length := by omega
    refine ⟨l[i], by simp [hil], ?_⟩
    have := hops.at (j := i) (o := l[i]) (by rw [List.getElem?_take]; simp [hi, hil])
    rwa [Nat.zero_add] at this
  have htriv : ∀ ph i g w, ¬ i < n → atP Rs ph i g w := fun ph i g w hi => by
    unfold atP
    rw [List.getD_eq_getElem?_getD, List.getElem?_eq_none (by omega)]
    trivial
  have hsup : ∀ ph i g g' w, (∀ j o d, Anc l j i → l[j]? = some o → o.dst = some d → g d = g' d) → atP Rs ph i g w → atP Rs ph i g' w := fun ph i g g' w1 he h => by
    by_cases hi : i < n
    · obtain ⟨o, _, _, _, h2, _⟩ := hat i hi
      exact h2 ph g g' w1 he h
    · exact htriv ph i g' w1 hi
  refine wp_region_phD n T Eb b1 b2 hb12 h1n h2n hw (atP Rs) hm hB hT1 hT2 hT0 (fun ph i g w1 w2 h hb => ?_) (fun k i g w1 w2 hk hne h hb => ?_) hsup (fun i o hi ho => ?_) (fun f w' hb hR => hend f w' hb (AllR.of fun i hi => ?_))
  · by_cases hi : i < n
    · obtain ⟨o, _, h1, _⟩ := hat i hi
      exact h1 ph g w1 w2 h hb
    · exact htriv ph i g w2 hi
  · by_cases hi : i < n
    · obtain ⟨o, _, _, h1, _⟩ := hat i hi
      exact h1 k hk hne g w1 w2 h hb
    · exact htriv (k + 1) i g w2 hi
  · obtain ⟨o', ho', _, _, _, h3⟩ := hat i hi
    rw [ho] at ho'
    injection ho' with ho'
    subst ho'
    exact StepD.of hi hB hsz hsup h3
  · rw [List.length_map, hn] at hi
    have h := hR i hi
    have hl : i < Rs.length := by omega
    simp only [atP, atR, List.getD_eq_getElem?_getD, List.getElem?_map, List.getElem?_eq_getElem hl, Option.map_some, Option.getD_some] at h ⊢
    exact h
section
variable {Rs : List (Nat → RelP)} {T : Nat → World → Prop} {Eb : Nat → World → World → Prop} {b1 b2 : Nat}
theorem OpD.val {i d : Nat} {o : Oper} {c : Value} (hi : l[i]? = some o) (ho : o.dst = some d) (hne : i ≠ b1) (hne2 : i ≠ b2)
    (h : ∀ ph g w', T ph w' → (∀ d, ((l.take n).filterMap (·.dst)).contains d = false → g d = a.tmps.getD d undef) → Deps n (atP Rs ph) g w' o → (execOp (evL g) o).run P w' = .ok (.value c) w') :
    OpD P l n Rs a T Eb b1 b2 i o (fun _ g _ => g d = c) := by
  refine ⟨fun _ _ _ _ h _ => h, fun _ _ _ _ _ _ h _ => h, fun _ g g' _ he h => (he i o d (Anc.self i) hi ho).symm.trans h, fun ph g w' hb _ _ hout hd => ?_⟩
  unfold OpRel
  rw [h ph g w' hb hout hd]
  refine ⟨?_, .inl ⟨hne, hne2, Below.refl _ _⟩⟩
  rw [ho]
  unfold updO upd
  simp
theorem OpD.one {i d : Nat} {o : Oper} {p : Nat → Value → World → Prop} (hi : l[i]? = some o) (ho : o.dst = some d) (hne : i ≠ b1) (hne2 : i ≠ b2) (hst : ∀ ph v w1 w2, p ph v w1 → Below w1.heap.size w1 w2 → p ph v w2) (hst2 : ∀ k v w1 w2, k ≤ 1 → p k v w1 → Eb k w1 w2 → p (k + 1) v w2)
    (h : ∀ ph g w', T ph w' → (∀ d, ((l.take n).filterMap (·.dst)).contains d = false → g d = a.tmps.getD d undef) → Deps n (atP Rs ph) g w' o → OpRel P o (evL g) w' fun v w'' => p ph v w'' ∧ Below w'.heap.size w' w'') :
    OpD P l n Rs a T Eb b1 b2 i o (fun ph g w => p ph (g d) w) := by
  refine ⟨fun ph g w1 w2 h hb => hst _ _ _ _ h hb, fun k hk _ g w1 w2 h hb => hst2 k _ _ _ hk h hb, fun ph g g' w1 he h => ?_, fun ph g w' hb _ _ hout hd => ?_⟩
  · show p ph (g' d) w1
    rw [← he i o d (Anc.self i) hi ho]
    exact h
  · have h1 := h ph g w' hb hout hd
    unfold stepN
    rw [ho, if_neg hne, if_neg hne2]
    have e : ∀ v, updO g (some d) v d = v := fun v => by unfold updO upd; simp
    simp only [e]
    exact OpRel.mono (fun v w'' h => ⟨h.1, .inl ⟨hne, hne2, h.2⟩⟩) h1
/-- The first operation that writes. -/
theorem OpD.first {d : Nat} {o : Oper} {p : Nat → Value → World → Prop} (hi : l[b1]? = some o) (ho : o.dst = some d) (hst : ∀ ph v w1 w2, p ph v w1 → Below w1.heap.size w1 w2 → p ph v w2) (hst2 : ∀ v w1 w2, p 1 v w1 → Eb 1 w1 w2 → p 2 v w2)
    (h : ∀ g w', T 0 w' → (∀ d, ((l.take n).filterMap (·.dst)).contains d = false → g d = a.tmps.getD d undef) → Deps n (atP Rs 0) g w' o → OpRel P o (evL g) w' fun v w'' => p 1 v w'' ∧ Eb 0 w' w'') :
    OpD P l n Rs a T Eb b1 b2 b1 o (fun ph g w => p ph (g d) w) := by
  refine ⟨fun ph g w1 w2 h hb => hst _ _ _ _ h hb, fun k hk hne g w1 w2 h hb => ?_, fun ph g g' w1 he h => ?_, fun ph g w' hb hph _ hout hd => ?_⟩
  · rcases (show k = 0 ∨ k = 1 by omega) with rfl | rfl
    · exact absurd rfl hne
    · exact hst2 _ _ _ h hb
  · show p ph (g' d) w1
    rw [← he b1 o d (Anc.self b1) hi ho]
    exact h
  · obtain rfl := hph rfl
    have h1 := h g w' hb hout hd
    have e1 : stepN b1 b2 b1 0 = 1 := if_pos rfl
    have e : ∀ v, updO g (some d) v d = v := fun v => by unfold updO upd; simp
    rw [ho, e1]
    refine OpRel.mono (fun v w'' h => ⟨?_, .inr (.inl ⟨rfl, h.2⟩)⟩) h1
    show p 1 (updO g (some d) v d) w''
    rw [e]
    exact h.1
/-- The second operation that writes, a store. -/
theorem OpD.second {o : Oper} {p : (Nat → Value) → World → Prop} (hb12 : b1 ≠ b2) (ho : o.dst = none) (hst : ∀ g w1 w2, p g w1 → Below w1.heap.size w1 w2 → p g w2)
    (hsup : ∀ g g' w, (∀ j o d, Anc l j b2 → l[j]? = some o → o.dst = some d → g d = g' d) → p g w → p g' w)
    (h : ∀ g w', T 1 w' → (∀ d, ((l.take n).filterMap (·.dst)).contains d = false → g d = a.tmps.getD d undef) → Deps n (atP Rs 1) g w' o → OpRel P o (evL g) w' fun _ w'' => p g w'' ∧ Eb 1 w' w'') :
    OpD P l n Rs a T Eb b1 b2 b2 o (fun ph g w => ph = 2 ∧ p g w) := by
  refine ⟨fun ph g w1 w2 h hb => ⟨h.1, hst _ _ _ h.2 hb⟩, fun k hk hne g w1 w2 h hb => ?_, fun ph g g' w1 he h => ⟨h.1, hsup g g' w1 he h.2⟩, fun ph g w' hb _ hph hout hd => ?_⟩
  · exact absurd h.1 (by omega)
  · obtain rfl := hph rfl
    have h1 := h g w' hb hout hd
    have e1 : stepN b1 b2 b2 1 = 2 := by unfold stepN; rw [if_neg (fun e => hb12 e.symm), if_pos rfl]
    rw [ho, e1]
    exact OpRel.mono (fun v w'' h => ⟨⟨rfl, h.1⟩, .inr (.inr ⟨rfl, h.2⟩)⟩) h1
end
end
end Wh
namespace Wh
open Go Go.RowKit Go.Shelf Go.Proofs
attribute [local go_sem] run_indexAt_letter evL_tmp evL_const evL_func

theorem opRel_put_state {o : Oper} {ev : Operand → Value} {w : World} {K : Value → World → Prop} (x y : Operand) (ho : o.op = .store 31 x y) (b : Nat) (V V' : SV) (hbox : BoxAt w b V) (hx : ev x = .pointer (some ⟨b, 0, none⟩)) (hy : ev y = V'.val) (h1 : V'.cells.all (fun u => u.oneCell') = true)
    (h : ∀ w', BoxAt w' b V' → w.grownBy w' (some b) → K undef w') : OpRel Tryz.prog o ev w K := by
  have hr := run_storeVar_row (P := Tryz.prog) w b 31 31 V.cells.toArray V'.cells.toArray hbox (by kernel_rfl) rfl (by simpa using h1)
  have hk := h _ (hbox.blk.row V'.cells) (grown_row w b V'.cells.toArray)
  have hy' : ev y = .agg V'.cells.toArray := hy
  unfold OpRel execOp
  simp only [ho, hx, hy', Instr.storeAt, Instr.sureAddr, Sem.run_bind, Sem.run_pure, Result.andThen_ok, hr]
  exact hk
/-- What stands before the taking, behind it, and behind the storing. -/
def relA (base bx : Nat) (V : SV) (s s1 : State) : Nat → World → Prop
  | 0, w => Bx w base bx 31 [] V s
  | 1, w => BoxAt w bx V ∧ ∃ V9 : SV, V9 = { V with holds := V9.holds } ∧ OwnSt w base V9 s1
  | _, w => ∃ V9 : SV, V9 = { V with holds := V9.holds } ∧ Bx w base bx 31 [] V9 s1
def relT (W : World) (base bx : Nat) (V : SV) (s s1 : State) (ph : Nat) (w : World) : Prop := Below W.heap.size W w ∧ base ≤ w.heap.size ∧ relA base bx V s s1 ph w
section
variable {W w w1 w2 : World} {base bx ph : Nat} {V : SV} {s s1 : State}
theorem relT_below (h : relT W base bx V s s1 ph w1) (hb : Below w1.heap.size w1 w2) : relT W base bx V s s1 ph w2 := by
  obtain ⟨h1, h2, h3⟩ := h
  refine ⟨h1.trans (hb.mono h1.size), Nat.le_trans h2 hb.size, ?_⟩
  rcases ph with _ | _ | ph
  · exact Bx.below h3 hb
  · obtain ⟨h4, V9, h5, h6⟩ := h3
    exact ⟨h4.below hb h4.lt, V9, h5, h6.below hb⟩
  · obtain ⟨V9, h5, h6⟩ := h3
    exact ⟨V9, h5, h6.below hb⟩
theorem relT_box (h : relT W base bx V s s1 ph w) : ∃ Vb : SV, BoxAt w bx Vb ∧ Vb.orders = V.orders ∧ (ph = 0 → Vb = V) := by
  obtain ⟨h1, h2, h3⟩ := h
  rcases ph with _ | _ | ph
  · exact ⟨V, Bx.boxAt h3, rfl, fun _ => rfl⟩
  · exact ⟨V, h3.1, rfl, fun h => by omega⟩
  · obtain ⟨V9, h5, h6⟩ := h3
    exact ⟨V9, h6.boxAt, by rw [h5], fun h => by omega⟩
end
def takP (base : Nat) (V : SV) (s1 : State) (f : Value → Value) : Nat → Value → World → Prop
  | 0, _, _ => False
  | 1, v, w => ∃ V9 : SV, V9 = { V with holds := V9.holds } ∧ v = f V9.val ∧ OwnSt w base V9 s1
  | _, v, _ => ∃ V9 : SV, v = f V9.val
theorem takP_below {base : Nat} {V : SV} {s1 : State} {f : Value → Value} {ph : Nat} {v : Value} {w1 w2 : World} (h : takP base V s1 f ph v w1) (hb : Below w1.heap.size w1 w2) : takP base V s1 f ph v w2 := by
  rcases ph with _ | _ | ph
  · exact h
  · obtain ⟨V9, h5, h6, h7⟩ := h
    exact ⟨V9, h5, h6, h7.below hb⟩
  · exact h
theorem takP_next {base : Nat} {V : SV} {s1 : State} {f : Value → Value} {k : Nat} {v : Value} {w1 w2 : World} (hk : k ≤ 1) (h : takP base V s1 f k v w1) : takP base V s1 f (k + 1) v w2 := by
  rcases (show k = 0 ∨ k = 1 by omega) with rfl | rfl
  · exact h.elim
  · obtain ⟨V9, h5, h6, h7⟩ := h
    exact ⟨V9, h6⟩

end Wh
