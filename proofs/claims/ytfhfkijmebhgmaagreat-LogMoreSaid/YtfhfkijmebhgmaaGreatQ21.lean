/- Texts of the claim, joined: RelC, RelD, Del. -/
import Derived.Test.YtfhfkijmebhgmaaGreatQ20
import Derived.Test.YtfhfkijmebhgmaaGreatQ04
import Derived.Test.YtfhfkijmebhgmaaGreatQ08
import Derived.Test.YtfhfkijmebhgmaaGreatQ15
import Derived.Test.YtfhfkijmebhgmaaGreatQ18
namespace Wh
open Go Go.RowKit
section
variable {P : Program} {l : List Oper} {n : Nat} {R : Nat → Nat → (Nat → Value) → World → Prop} {Q : Exit → Act → World → Prop} {a : Act} {w : World}
def stepN (b1 b2 i ph : Nat) : Nat := if i = b1 then 1 else if i = b2 then 2 else ph
def bkN (b1 b2 k : Nat) : Nat := if k = 0 then b1 else b2
/-- What is to be shown of one operation. -/
def StepPh (P : Program) (l : List Oper) (n : Nat) (R : Nat → Nat → (Nat → Value) → World → Prop) (Q : Exit → Act → World → Prop) (a : Act) (T : World → Prop) (Eb : Nat → World → World → Prop) (b1 b2 i : Nat) (o : Oper) : Prop :=
  ∀ ph f w', T w' → (i = b1 → ph = 0) → (i = b2 → ph = 1) → Deps n (R ph) f w' o →
    o.wp P (fillA a (l.take n) f) w' (fun a' w'' => ∃ v, a' = (fillA a (l.take n) f).put o.dst v ∧ R (stepN b1 b2 i ph) i (updO f o.dst v) w'' ∧ ((i ≠ b1 ∧ i ≠ b2 ∧ Below w'.heap.size w' w'') ∨ (i = b1 ∧ Eb 0 w' w'') ∨ (i = b2 ∧ Eb 1 w' w''))) Q
theorem StepPh.of {T : World → Prop} {Eb : Nat → World → World → Prop} {b1 b2 : Nat} {i : Nat} {o : Oper} (hi : i < n) (hB : relB l n = true) (hsz : ((l.take n).filterMap (·.dst)).all (fun d => decide (d < a.tmps.size)) = true)
    (hsup : ∀ ph i g g' w, (∀ j o d, Anc l j i → l[j]? = some o → o.dst = some d → g d = g' d) → R ph i g w → R ph i g' w)
    (h : ∀ ph (g : Nat → Value) w', T w' → (i = b1 → ph = 0) → (i = b2 → ph = 1) → (∀ d, ((l.take n).filterMap (·.dst)).contains d = false → g d = a.tmps.getD d undef) → Deps n (R ph) g w' o → OpRel P o (evL g) w' fun v w'' => R (stepN b1 b2 i ph) i (updO g o.dst v) w'' ∧ ((i ≠ b1 ∧ i ≠ b2 ∧ Below w'.heap.size w' w'') ∨ (i = b1 ∧ Eb 0 w' w'') ∨ (i = b2 ∧ Eb 1 w' w''))) :
    StepPh P l n R Q a T Eb b1 b2 i o := by
  simp only [relB, Bool.and_eq_true, Bool.or_eq_true, decide_eq_true_eq, List.all_eq_true] at hB
  obtain ⟨_, hback⟩ := hB
  have hback' : ∀ k oe, k < n → l[k]? = some oe → ∀ e ∈ oe.after, Region.binds .any e = true → e.on < k := fun k oe hk hoe e he hbd => by
    have := hback k (List.mem_range.2 hk)
    rw [hoe] at this
    simp only [Option.map_some, Option.getD_some, Array.all_eq_true_iff_forall_mem, Bool.or_eq_true, Bool.not_eq_true', decide_eq_true_eq] at this
    rcases this e he with h | h
    · rw [h] at hbd; cases hbd
    · exact h
  have hanc : ∀ j k, Anc l j k → k < n → j < n := by
    intro j k h
    induction h with
    | self => exact id
    | back ho he hbd hon _ ih =>
      intro h1
      subst hon
      have := hback' _ _ h1 ho _ he hbd
      exact ih (by omega)
  have hsz' : ∀ d ∈ (l.take n).filterMap (·.dst), d < a.tmps.size := fun d hd => by
    have := List.all_eq_true.1 hsz d hd
    simpa using this
  intro ph f w' hb hj hj2 hd
  have hg : ∀ d ∈ (l.take n).filterMap (·.dst), (fillA a (l.take n) f).tmps.getD d undef = f d := fun d hd => by
    have h1 := fillT_get ((l.take n).filterMap (·.dst)) f a.tmps d
    rw [if_pos (hsz' d hd), if_pos hd] at h1
    unfold fillA
    simp only [Array.getD_eq_getD_getElem?, h1, Option.getD_some]
  have ho : ∀ d, ((l.take n).filterMap (·.dst)).contains d = false → (fillA a (l.take n) f).tmps.getD d undef = a.tmps.getD d undef := fun d hd => by
    have h1 := fillT_get ((l.take n).filterMap (·.dst)) f a.tmps d
    have h2 : d ∉ (l.take n).filterMap (·.dst) := by simpa using hd
    rw [if_neg h2] at h1
    unfold fillA
    simp only [Array.getD_eq_getD_getElem?, h1]
    by_cases hl : d < a.tmps.size
    · rw [if_pos hl]
    · rw [if_neg hl, Array.getElem?_eq_none (Nat.le_of_not_lt hl)]
  have key := h ph (fun d => (fillA a (l.take n) f).tmps.getD d undef) w' hb hj hj2 ho (fun e he hbd hen => hsup _ e.on f _ _ (fun j oj d haj hoj hdj => (hg d (dst_mem hoj (hanc _ _ haj hen) hdj)).symm) (hd e he hbd hen))
  rw [← evL_eval] at key
  refine Oper.wp_mono ?_ key.wp
  rintro a' w'' ⟨v, rfl, hr, hbw⟩
  refine ⟨v, rfl, hsup _ i _ _ _ (fun j oj d haj hoj hdj => ?_) hr, hbw⟩
  have hjn := hanc _ _ haj hi
  have hmem := dst_mem hoj hjn hdj
  cases hdst : o.dst with
  | none => exact hg d hmem
  | some d0 =>
    unfold updO upd
    simp only
    split
    · rfl
    · exact hg d hmem

def atP (Rs : List (Nat → RelP)) (ph : Nat) (i : Nat) : RelP := Rs.getD i (fun _ _ _ => True) ph
/-- One operation: what it says stays, hangs on what came before it alone, and comes. -/
def OpPh (P : Program) (l : List Oper) (n : Nat) (Rs : List (Nat → RelP)) (a : Act) (T : World → Prop) (Eb : Nat → World → World → Prop) (b1 b2 i : Nat) (o : Oper) (p : Nat → RelP) : Prop :=
  (∀ ph g w1 w2, p ph g w1 → Below w1.heap.size w1 w2 → p ph g w2) ∧ (∀ k, k ≤ 1 → i ≠ bkN b1 b2 k → ∀ g w1 w2, p k g w1 → Eb k w1 w2 → p (k + 1) g w2) ∧ (∀ ph g g' w, (∀ j o d, Anc l j i → l[j]? = some o → o.dst = some d → g d = g' d) → p ph g w → p ph g' w) ∧
  ∀ ph g w', T w' → (i = b1 → ph = 0) → (i = b2 → ph = 1) → (∀ d, ((l.take n).filterMap (·.dst)).contains d = false → g d = a.tmps.getD d undef) → Deps n (atP Rs ph) g w' o →
    OpRel P o (evL g) w' fun v w'' => p (stepN b1 b2 i ph) (updO g o.dst v) w'' ∧ ((i ≠ b1 ∧ i ≠ b2 ∧ Below w'.heap.size w' w'') ∨ (i = b1 ∧ Eb 0 w' w'') ∨ (i = b2 ∧ Eb 1 w' w''))
def OpsPh (P : Program) (l : List Oper) (n : Nat) (Rs : List (Nat → RelP)) (a : Act) (T : World → Prop) (Eb : Nat → World → World → Prop) (b1 b2 : Nat) : Nat → List Oper → List (Nat → RelP) → Prop
  | _, [], _ => True
  | _, _ :: _, [] => False
  | i, o :: r, p :: ps => OpPh P l n Rs a T Eb b1 b2 i o p ∧ OpsPh P l n Rs a T Eb b1 b2 (i + 1) r ps
section
variable {Rs : List (Nat → RelP)} {T : World → Prop} {Eb : Nat → World → World → Prop} {b1 b2 : Nat}
theorem OpsPh.at : ∀ {r : List Oper} {ps : List (Nat → RelP)} {k : Nat}, OpsPh P l n Rs a T Eb b1 b2 k r ps → ∀ {j : Nat} {o : Oper}, r[j]? = some o → OpPh P l n Rs a T Eb b1 b2 (k + j) o (ps.getD j (fun _ _ _ => True))
  | [], _, _, _, _, _, h => by simp at h
  | _ :: _, [], _, h, _, _, _ => h.elim
  | x :: r, p :: ps, k, h, 0, o, hj => by
    simp at hj
    subst hj
    exact h.1
  | x :: r, p :: ps, k, h, j + 1, o, hj => by
    have := OpsPh.at h.2 (j := j) (o := o) (by simpa using hj)
    rw [show k + 1 + j = k + (j + 1) by omega] at this
    simpa using this
theorem OpsPh.nil {i : Nat} {ps : List (Nat → RelP)} : OpsPh P l n Rs a T Eb b1 b2 i [] ps := by cases ps <;> trivial
theorem OpsPh.cons {i : Nat} {o : Oper} {r : List Oper} {p : Nat → RelP} {ps : List (Nat → RelP)} (h : OpPh P l n Rs a T Eb b1 b2 i o p) (h' : OpsPh P l n Rs a T Eb b1 b2 (i + 1) r ps) : OpsPh P l n Rs a T Eb b1 b2 i (o :: r) (p :: ps) := ⟨h, h'⟩
end
section
variable {Rs : List (Nat → RelP)} {T : World → Prop} {Eb : Nat → World → World → Prop} {b1 b2 : Nat}
theorem OpPh.val {i d : Nat} {o : Oper} {c : Value} (hi : l[i]? = some o) (ho : o.dst = some d) (hne : i ≠ b1) (hne2 : i ≠ b2)
    (h : ∀ ph g w', T w' → (∀ d, ((l.take n).filterMap (·.dst)).contains d = false → g d = a.tmps.getD d undef) → Deps n (atP Rs ph) g w' o → (execOp (evL g) o).run P w' = .ok (.value c) w') :
    OpPh P l n Rs a T Eb b1 b2 i o (fun _ g _ => g d = c) := by
  refine ⟨fun _ _ _ _ h _ => h, fun _ _ _ _ _ _ h _ => h, fun _ g g' _ he h => (he i o d (Anc.self i) hi ho).symm.trans h, fun ph g w' hb _ _ hout hd => ?_⟩
  unfold OpRel
  rw [h ph g w' hb hout hd]
  refine ⟨?_, .inl ⟨hne, hne2, Below.refl _ _⟩⟩
  rw [ho]
  unfold updO upd
  simp
theorem OpPh.one {i d : Nat} {o : Oper} {p : Nat → Value → World → Prop} (hi : l[i]? = some o) (ho : o.dst = some d) (hne : i ≠ b1) (hne2 : i ≠ b2) (hst : ∀ ph v w1 w2, p ph v w1 → Below w1.heap.size w1 w2 → p ph v w2) (hst2 : ∀ k v w1 w2, k ≤ 1 → p k v w1 → Eb k w1 w2 → p (k + 1) v w2)
    (h : ∀ ph g w', T w' → (∀ d, ((l.take n).filterMap (·.dst)).contains d = false → g d = a.tmps.getD d undef) → Deps n (atP Rs ph) g w' o → OpRel P o (evL g) w' fun v w'' => p ph v w'' ∧ Below w'.heap.size w' w'') :
    OpPh P l n Rs a T Eb b1 b2 i o (fun ph g w => p ph (g d) w) := by
  refine ⟨fun ph g w1 w2 h hb => hst _ _ _ _ h hb, fun k hk _ g w1 w2 h hb => hst2 k _ _ _ hk h hb, fun ph g g' w1 he h => ?_, fun ph g w' hb _ _ hout hd => ?_⟩
  · show p ph (g' d) w1
    rw [← he i o d (Anc.self i) hi ho]
    exact h
  · have h1 := h ph g w' hb hout hd
    unfold stepN
    rw [ho, if_neg hne, if_neg hne2]
    have e : ∀ v, updO g (some d) v d = v := fun v => by unfold updO upd; simp
    simp only [e]
    exact OpRel.mono (fun v w'' h => ⟨h.1, .inl ⟨hne, hne2, h.2⟩⟩) h1
/-- The first operation that writes. -/
theorem OpPh.first {d : Nat} {o : Oper} {p : Nat → Value → World → Prop} (hi : l[b1]? = some o) (ho : o.dst = some d) (hst : ∀ ph v w1 w2, p ph v w1 → Below w1.heap.size w1 w2 → p ph v w2) (hst2 : ∀ v w1 w2, p 1 v w1 → Eb 1 w1 w2 → p 2 v w2)
    (h : ∀ g w', T w' → (∀ d, ((l.take n).filterMap (·.dst)).contains d = false → g d = a.tmps.getD d undef) → Deps n (atP Rs 0) g w' o → OpRel P o (evL g) w' fun v w'' => p 1 v w'' ∧ Eb 0 w' w'') :
    OpPh P l n Rs a T Eb b1 b2 b1 o (fun ph g w => p ph (g d) w) := by
  refine ⟨fun ph g w1 w2 h hb => hst _ _ _ _ h hb, fun k hk hne g w1 w2 h hb => ?_, fun ph g g' w1 he h => ?_, fun ph g w' hb hph _ hout hd => ?_⟩
  · rcases (show k = 0 ∨ k = 1 by omega) with rfl | rfl
    · exact absurd rfl hne
    · exact hst2 _ _ _ h hb
  · show p ph (g' d) w1
    rw [← he b1 o d (Anc.self b1) hi ho]
    exact h
  · obtain rfl := hph rfl
    have h1 := h g w' hb hout hd
    have e1 : stepN b1 b2 b1 0 = 1 := if_pos rfl
    have e : ∀ v, updO g (some d) v d = v := fun v => by unfold updO upd; simp
    rw [ho, e1]
    refine OpRel.mono (fun v w'' h => ⟨?_, .inr (.inl ⟨rfl, h.2⟩)⟩) h1
    show p 1 (updO g (some d) v d) w''
    rw [e]
    exact h.1
/-- The second operation that writes, a store. -/
theorem OpPh.second {o : Oper} {p : (Nat → Value) → World → Prop} (hb12 : b1 ≠ b2) (ho : o.dst = none) (hst : ∀ g w1 w2, p g w1 → Below w1.heap.size w1 w2 → p g w2)
    (hsup : ∀ g g' w, (∀ j o d, Anc l j b2 → l[j]? = some o → o.dst = some d → g d = g' d) → p g w → p g' w)
    (h : ∀ g w', T w' → (∀ d, ((l.take n).filterMap (·.dst)).contains d = false → g d = a.tmps.getD d undef) → Deps n (atP Rs 1) g w' o → OpRel P o (evL g) w' fun _ w'' => p g w'' ∧ Eb 1 w' w'') :
    OpPh P l n Rs a T Eb b1 b2 b2 o (fun ph g w => ph = 2 ∧ p g w) := by
  refine ⟨fun ph g w1 w2 h hb => ⟨h.1, hst _ _ _ h.2 hb⟩, fun k hk hne g w1 w2 h hb => ?_, fun ph g g' w1 he h => ⟨h.1, hsup g g' w1 he h.2⟩, fun ph g w' hb _ hph hout hd => ?_⟩
  · exact absurd h.1 (by omega)
  · obtain rfl := hph rfl
    have h1 := h g w' hb hout hd
    have e1 : stepN b1 b2 b2 1 = 2 := by unfold stepN; rw [if_neg (fun e => hb12 e.symm), if_pos rfl]
    rw [ho, e1]
    exact OpRel.mono (fun v w'' h => ⟨⟨rfl, h.1⟩, .inr (.inr ⟨rfl, h.2⟩)⟩) h1
end
end
end Wh
namespace Wh
open Go Go.RowKit
section
variable {P : Program} {l : List Oper} {n : Nat} {R : Nat → Nat → (Nat → Value) → World → Prop} {Q : Exit → Act → World → Prop} {a : Act} {w : World}
/-- What is to be shown of one operation. -/
def StepD (P : Program) (l : List Oper) (n : Nat) (R : Nat → Nat → (Nat → Value) → World → Prop) (Q : Exit → Act → World → Prop) (a : Act) (T : Nat → World → Prop) (Eb : Nat → World → World → Prop) (b1 b2 i : Nat) (o : Oper) : Prop :=
  ∀ ph f w', T ph w' → (i = b1 → ph = 0) → (i = b2 → ph = 1) → Deps n (R ph) f w' o →
    o.wp P (fillA a (l.take n) f) w' (fun a' w'' => ∃ v, a' = (fillA a (l.take n) f).put o.dst v ∧ R (stepN b1 b2 i ph) i (updO f o.dst v) w'' ∧ ((i ≠ b1 ∧ i ≠ b2 ∧ Below w'.heap.size w' w'') ∨ (i = b1 ∧ Eb 0 w' w'') ∨ (i = b2 ∧ Eb 1 w' w''))) Q
theorem StepD.of {T : Nat → World → Prop} {Eb : Nat → World → World → Prop} {b1 b2 : Nat} {i : Nat} {o : Oper} (hi : i < n) (hB : relB l n = true) (hsz : ((l.take n).filterMap (·.dst)).all (fun d => decide (d < a.tmps.size)) = true)
    (hsup : ∀ ph i g g' w, (∀ j o d, Anc l j i → l[j]? = some o → o.dst = some d → g d = g' d) → R ph i g w → R ph i g' w)
    (h : ∀ ph (g : Nat → Value) w', T ph w' → (i = b1 → ph = 0) → (i = b2 → ph = 1) → (∀ d, ((l.take n).filterMap (·.dst)).contains d = false → g d = a.tmps.getD d undef) → Deps n (R ph) g w' o → OpRel P o (evL g) w' fun v w'' => R (stepN b1 b2 i ph) i (updO g o.dst v) w'' ∧ ((i ≠ b1 ∧ i ≠ b2 ∧ Below w'.heap.size w' w'') ∨ (i = b1 ∧ Eb 0 w' w'') ∨ (i = b2 ∧ Eb 1 w' w''))) :
    StepD P l n R Q a T Eb b1 b2 i o := by
  simp only [relB, Bool.and_eq_true, Bool.or_eq_true, decide_eq_true_eq, List.all_eq_true] at hB
  obtain ⟨_, hback⟩ := hB
  have hback' : ∀ k oe, k < n → l[k]? = some oe → ∀ e ∈ oe.after, Region.binds .any e = true → e.on < k := fun k oe hk hoe e he hbd => by
    have := hback k (List.mem_range.2 hk)
    rw [hoe] at this
    simp only [Option.map_some, Option.getD_some, Array.all_eq_true_iff_forall_mem, Bool.or_eq_true, Bool.not_eq_true', decide_eq_true_eq] at this
    rcases this e he with h | h
    · rw [h] at hbd; cases hbd
    · exact h
  have hanc : ∀ j k, Anc l j k → k < n → j < n := by
    intro j k h
    induction h with
    | self => exact id
    | back ho he hbd hon _ ih =>
      intro h1
      subst hon
      have := hback' _ _ h1 ho _ he hbd
      exact ih (by omega)
  have hsz' : ∀ d ∈ (l.take n).filterMap (·.dst), d < a.tmps.size := fun d hd => by
    have := List.all_eq_true.1 hsz d hd
    simpa using this
  intro ph f w' hb hj hj2 hd
  have hg : ∀ d ∈ (l.take n).filterMap (·.dst), (fillA a (l.take n) f).tmps.getD d undef = f d := fun d hd => by
    have h1 := fillT_get ((l.take n).filterMap (·.dst)) f a.tmps d
    rw [if_pos (hsz' d hd), if_pos hd] at h1
    unfold fillA
    simp only [Array.getD_eq_getD_getElem?, h1, Option.getD_some]
  have ho : ∀ d, ((l.take n).filterMap (·.dst)).contains d = false → (fillA a (l.take n) f).tmps.getD d undef = a.tmps.getD d undef := fun d hd => by
    have h1 := fillT_get ((l.take n).filterMap (·.dst)) f a.tmps d
    have h2 : d ∉ (l.take n).filterMap (·.dst) := by simpa using hd
    rw [if_neg h2] at h1
    unfold fillA
    simp only [Array.getD_eq_getD_getElem?, h1]
    by_cases hl : d < a.tmps.size
    · rw [if_pos hl]
    · rw [if_neg hl, Array.getElem?_eq_none (Nat.le_of_not_lt hl)]
  have key := h ph (fun d => (fillA a (l.take n) f).tmps.getD d undef) w' hb hj hj2 ho (fun e he hbd hen => hsup _ e.on f _ _ (fun j oj d haj hoj hdj => (hg d (dst_mem hoj (hanc _ _ haj hen) hdj)).symm) (hd e he hbd hen))
  rw [← evL_eval] at key
  refine Oper.wp_mono ?_ key.wp
  rintro a' w'' ⟨v, rfl, hr, hbw⟩
  refine ⟨v, rfl, hsup _ i _ _ _ (fun j oj d haj hoj hdj => ?_) hr, hbw⟩
  have hjn := hanc _ _ haj hi
  have hmem := dst_mem hoj hjn hdj
  cases hdst : o.dst with
  | none => exact hg d hmem
  | some d0 =>
    unfold updO upd
    simp only
    split
    · rfl
    · exact hg d hmem

/-- One operation: what it says stays, hangs on what came before it alone, and comes. -/
def OpD (P : Program) (l : List Oper) (n : Nat) (Rs : List (Nat → RelP)) (a : Act) (T : Nat → World → Prop) (Eb : Nat → World → World → Prop) (b1 b2 i : Nat) (o : Oper) (p : Nat → RelP) : Prop :=
  (∀ ph g w1 w2, p ph g w1 → Below w1.heap.size w1 w2 → p ph g w2) ∧ (∀ k, k ≤ 1 → i ≠ bkN b1 b2 k → ∀ g w1 w2, p k g w1 → Eb k w1 w2 → p (k + 1) g w2) ∧ (∀ ph g g' w, (∀ j o d, Anc l j i → l[j]? = some o → o.dst = some d → g d = g' d) → p ph g w → p ph g' w) ∧
  ∀ ph g w', T ph w' → (i = b1 → ph = 0) → (i = b2 → ph = 1) → (∀ d, ((l.take n).filterMap (·.dst)).contains d = false → g d = a.tmps.getD d undef) → Deps n (atP Rs ph) g w' o →
    OpRel P o (evL g) w' fun v w'' => p (stepN b1 b2 i ph) (updO g o.dst v) w'' ∧ ((i ≠ b1 ∧ i ≠ b2 ∧ Below w'.heap.size w' w'') ∨ (i = b1 ∧ Eb 0 w' w'') ∨ (i = b2 ∧ Eb 1 w' w''))
def OpsD (P : Program) (l : List Oper) (n : Nat) (Rs : List (Nat → RelP)) (a : Act) (T : Nat → World → Prop) (Eb : Nat → World → World → Prop) (b1 b2 : Nat) : Nat → List Oper → List (Nat → RelP) → Prop
  | _, [], _ => True
  | _, _ :: _, [] => False
  | i, o :: r, p :: ps => OpD P l n Rs a T Eb b1 b2 i o p ∧ OpsD P l n Rs a T Eb b1 b2 (i + 1) r ps
section
variable {Rs : List (Nat → RelP)} {T : Nat → World → Prop} {Eb : Nat → World → World → Prop} {b1 b2 : Nat}
theorem OpsD.at : ∀ {r : List Oper} {ps : List (Nat → RelP)} {k : Nat}, OpsD P l n Rs a T Eb b1 b2 k r ps → ∀ {j : Nat} {o : Oper}, r[j]? = some o → OpD P l n Rs a T Eb b1 b2 (k + j) o (ps.getD j (fun _ _ _ => True))
  | [], _, _, _, _, _, h => by simp at h
  | _ :: _, [], _, h, _, _, _ => h.elim
  | x :: r, p :: ps, k, h, 0, o, hj => by
    simp at hj
    subst hj
    exact h.1
  | x :: r, p :: ps, k, h, j + 1, o, hj => by
    have := OpsD.at h.2 (j := j) (o := o) (by simpa using hj)
    rw [show k + 1 + j = k + (j + 1) by omega] at this
    simpa using this
theorem OpsD.nil {i : Nat} {ps : List (Nat → RelP)} : OpsD P l n Rs a T Eb b1 b2 i [] ps := by cases ps <;> trivial
theorem OpsD.cons {i : Nat} {o : Oper} {r : List Oper} {p : Nat → RelP} {ps : List (Nat → RelP)} (h : OpD P l n Rs a T Eb b1 b2 i o p) (h' : OpsD P l n Rs a T Eb b1 b2 (i + 1) r ps) : OpsD P l n Rs a T Eb b1 b2 i (o :: r) (p :: ps) := ⟨h, h'⟩
end
section
variable {Rs : List (Nat → RelP)} {T : Nat → World → Prop} {Eb : Nat → World → World → Prop} {b1 b2 : Nat}
theorem OpD.val {i d : Nat} {o : Oper} {c : Value} (hi : l[i]? = some o) (ho : o.dst = some d) (hne : i ≠ b1) (hne2 : i ≠ b2)
    (h : ∀ ph g w', T ph w' → (∀ d, ((l.take n).filterMap (·.dst)).contains d = false → g d = a.tmps.getD d undef) → Deps n (atP Rs ph) g w' o → (execOp (evL g) o).run P w' = .ok (.value c) w') :
    OpD P l n Rs a T Eb b1 b2 i o (fun _ g _ => g d = c) := by
  refine ⟨fun _ _ _ _ h _ => h, fun _ _ _ _ _ _ h _ => h, fun _ g g' _ he h => (he i o d (Anc.self i) hi ho).symm.trans h, fun ph g w' hb _ _ hout hd => ?_⟩
  unfold OpRel
  rw [h ph g w' hb hout hd]
  refine ⟨?_, .inl ⟨hne, hne2, Below.refl _ _⟩⟩
  rw [ho]
  unfold updO upd
  simp
theorem OpD.one {i d : Nat} {o : Oper} {p : Nat → Value → World → Prop} (hi : l[i]? = some o) (ho : o.dst = some d) (hne : i ≠ b1) (hne2 : i ≠ b2) (hst : ∀ ph v w1 w2, p ph v w1 → Below w1.heap.size w1 w2 → p ph v w2) (hst2 : ∀ k v w1 w2, k ≤ 1 → p k v w1 → Eb k w1 w2 → p (k + 1) v w2)
    (h : ∀ ph g w', T ph w' → (∀ d, ((l.take n).filterMap (·.dst)).contains d = false → g d = a.tmps.getD d undef) → Deps n (atP Rs ph) g w' o → OpRel P o (evL g) w' fun v w'' => p ph v w'' ∧ Below w'.heap.size w' w'') :
    OpD P l n Rs a T Eb b1 b2 i o (fun ph g w => p ph (g d) w) := by
  refine ⟨fun ph g w1 w2 h hb => hst _ _ _ _ h hb, fun k hk _ g w1 w2 h hb => hst2 k _ _ _ hk h hb, fun ph g g' w1 he h => ?_, fun ph g w' hb _ _ hout hd => ?_⟩
  · show p ph (g' d) w1
    rw [← he i o d (Anc.self i) hi ho]
    exact h
  · have h1 := h ph g w' hb hout hd
    unfold stepN
    rw [ho, if_neg hne, if_neg hne2]
    have e : ∀ v, updO g (some d) v d = v := fun v => by unfold updO upd; simp
    simp only [e]
    exact OpRel.mono (fun v w'' h => ⟨h.1, .inl ⟨hne, hne2, h.2⟩⟩) h1
/-- The first operation that writes. -/
theorem OpD.first {d : Nat} {o : Oper} {p : Nat → Value → World → Prop} (hi : l[b1]? = some o) (ho : o.dst = some d) (hst : ∀ ph v w1 w2, p ph v w1 → Below w1.heap.size w1 w2 → p ph v w2) (hst2 : ∀ v w1 w2, p 1 v w1 → Eb 1 w1 w2 → p 2 v w2)
    (h : ∀ g w', T 0 w' → (∀ d, ((l.take n).filterMap (·.dst)).contains d = false → g d = a.tmps.getD d undef) → Deps n (atP Rs 0) g w' o → OpRel P o (evL g) w' fun v w'' => p 1 v w'' ∧ Eb 0 w' w'') :
    OpD P l n Rs a T Eb b1 b2 b1 o (fun ph g w => p ph (g d) w) := by
  refine ⟨fun ph g w1 w2 h hb => hst _ _ _ _ h hb, fun k hk hne g w1 w2 h hb => ?_, fun ph g g' w1 he h => ?_, fun ph g w' hb hph _ hout hd => ?_⟩
  · rcases (show k = 0 ∨ k = 1 by omega) with rfl | rfl
    · exact absurd rfl hne
    · exact hst2 _ _ _ h hb
  · show p ph (g' d) w1
    rw [← he b1 o d (Anc.self b1) hi ho]
    exact h
  · obtain rfl := hph rfl
    have h1 := h g w' hb hout hd
    have e1 : stepN b1 b2 b1 0 = 1 := if_pos rfl
    have e : ∀ v, updO g (some d) v d = v := fun v => by unfold updO upd; simp
    rw [ho, e1]
    refine OpRel.mono (fun v w'' h => ⟨?_, .inr (.inl ⟨rfl, h.2⟩)⟩) h1
    show p 1 (updO g (some d) v d) w''
    rw [e]
    exact h.1
/-- The second operation that writes, a store. -/
theorem OpD.second {o : Oper} {p : (Nat → Value) → World → Prop} (hb12 : b1 ≠ b2) (ho : o.dst = none) (hst : ∀ g w1 w2, p g w1 → Below w1.heap.size w1 w2 → p g w2)
    (hsup : ∀ g g' w, (∀ j o d, Anc l j b2 → l[j]? = some o → o.dst = some d → g d = g' d) → p g w → p g' w)
    (h : ∀ g w', T 1 w' → (∀ d, ((l.take n).filterMap (·.dst)).contains d = false → g d = a.tmps.getD d undef) → Deps n (atP Rs 1) g w' o → OpRel P o (evL g) w' fun _ w'' => p g w'' ∧ Eb 1 w' w'') :
    OpD P l n Rs a T Eb b1 b2 b2 o (fun ph g w => ph = 2 ∧ p g w) := by
  refine ⟨fun ph g w1 w2 h hb => ⟨h.1, hst _ _ _ h.2 hb⟩, fun k hk hne g w1 w2 h hb => ?_, fun ph g g' w1 he h => ⟨h.1, hsup g g' w1 he h.2⟩, fun ph g w' hb _ hph hout hd => ?_⟩
  · exact absurd h.1 (by omega)
  · obtain rfl := hph rfl
    have h1 := h g w' hb hout hd
    have e1 : stepN b1 b2 b2 1 = 2 := by unfold stepN; rw [if_neg (fun e => hb12 e.symm), if_pos rfl]
    rw [ho, e1]
    exact OpRel.mono (fun v w'' h => ⟨⟨rfl, h.1⟩, .inr (.inr ⟨rfl, h.2⟩)⟩) h1
end
end
end Wh
namespace Wh
open Go Go.RowKit Go.Shelf Go.Proofs
attribute [local go_sem] run_indexAt_letter

theorem take_filter_yes {α : Type} {l : List α} {j : Nat} (hj : j < l.length) (P : α → Bool) (h : P l[j] = true) : (l.take (j + 1)).filter P = (l.take j).filter P ++ [l[j]] := by
  rw [List.take_succ_eq_append_getElem hj, List.filter_append]
  simp [h]
theorem take_filter_no {α : Type} {l : List α} {j : Nat} (hj : j < l.length) (P : α → Bool) (h : P l[j] = false) : (l.take (j + 1)).filter P = (l.take j).filter P := by
  rw [List.take_succ_eq_append_getElem hj, List.filter_append]
  simp [h]
theorem take_idx {α : Type} {l : List α} {P : α → Bool} (h : l.any P = true) : l.findIdx P < l.length ∧ ((l.take (l.findIdx P + 1)).filter fun x => !P x) = l.take (l.findIdx P) := by
  have hlt : l.findIdx P < l.length := List.findIdx_lt_length.2 (by obtain ⟨x, hx, hp⟩ := List.any_eq_true.1 h; exact ⟨x, hx, hp⟩)
  refine ⟨hlt, ?_⟩
  rw [take_filter_no hlt _ (by have := List.findIdx_getElem (p := P) (xs := l) (w := hlt); simp [this]), List.filter_eq_self]
  intro x hx
  obtain ⟨i, hi, rfl⟩ := List.getElem_of_mem hx
  rw [List.getElem_take]
  have hi' : i < l.findIdx P := by rw [List.length_take] at hi; omega
  have := List.not_of_lt_findIdx hi'
  simp [this]

theorem infoHold4 : (Tryz.prog.info? 46).map (·.size) = some 4 := by kernel_rfl
set_option maxHeartbeats 4000000 in
set_option maxRecDepth 100000 in
theorem delFuncHold (w : World) (base : Nat) (v : Value) (l : List Hold) (gf : FuncId) (lb : Array Value) (del : Hold → Bool) (eg : Enters Tryz.prog gf) (hown : Own cHold 4 46 w base v l) (hn : l.length ≤ 1000000)
    (hf : ∀ k, k < l.length → ∀ W, Step (fun q => v.ownBlock = some q) w W → Calls Tryz.prog gf (#[vHold (hold l k)] ++ lb) W fun e W' => e = .returned (.bool (del (hold l k))) ∧ Below W.heap.size W W') :
    Calls Tryz.prog 99 #[v, .func (.func gf) #[] lb] w fun e w' => ∃ v', e = .returned v' ∧ Own cHold 4 46 w' base v' (l.filter fun x => !del x) ∧ Step (fun q => v.ownBlock = some q) w w' ∧ v'.ownBlock = v.ownBlock := by
  have hI := Lib.hid (indexFuncHold w v l gf lb del eg (hown.sl (by omega)) (fun k hk W hW => hf k hk W (.of_below hW)))
  have hF := Lib.hid hf
  have hl : l.length ≤ 140737488355232 := by omega
  have eg' : ∀ args w, Sem.run Tryz.prog (callFunc gf args) w = .ok (.enter gf args) w := eg
  obtain ⟨A, c, rfl⟩ := hown.isSlice
  have hO := Lib.hid hown
  clear hown hf
  go_enter Tryz.func99, Tryz.ntmps99
  go_wp2_with fail
  refine hI.out.mono ?_
  rintro e W1 ⟨rfl, hb1⟩
  cases ha : l.any del
  · have hid : idxOf del l = -1 := by unfold idxOf; rw [ha]; rfl
    have hfl := Lib.hid (show (l.filter fun x => !del x) = l from List.filter_eq_self.2 fun x hx => by
      have := List.any_eq_false.1 ha x hx
      simpa using this)
    rw [hid]
    clear hid ha
    go_wp2_with fail
    go_ret
    exact ⟨.slice A l.length c, rfl, by rw [hfl.out]; exact hO.out.below hb1, .of_below hb1, rfl⟩
  · obtain ⟨i0, hi0⟩ : ∃ i0, l.findIdx del = i0 := ⟨_, rfl⟩
    have hid : idxOf del l = (i0 : Int) := by unfold idxOf; rw [ha, hi0]; rfl
    obtain ⟨hlt0, htk0⟩ := take_idx ha
    rw [hi0] at hlt0 htk0
    obtain ⟨g, c', hv, hgb, hgl⟩ := hO.out.some_ (by omega)
    injection hv with e1 _ e2
    subst e1 e2
    rw [hid]
    have hne1 : ((i0 : Int) == -1) = false := by simp
    have hw0 : IntKind.i64.wrap ((i0 : Int) + 1) = (i0 : Int) + 1 := by rw [IntKind.wrap_i64]; omega
    have hob := Lib.hid (show (Value.slice (some ⟨g, 0, none⟩) l.length c).ownBlock = some g from rfl)
    have htk := Lib.hid htk0
    have hcap := Lib.hid (show l.length ≤ c ∧ c ≤ 9223372036854775807 from by
      obtain ⟨g2, c2, cur, e1, _, _, h2, h3, _⟩ := hO.out.row (by omega)
      injection e1 with _ _ e2
      subst e2
      unfold maxLen at h3
      exact ⟨h2, by omega⟩)
    clear hid ha hi0 htk0
    go_wp2_with fail
    clear hw0 hne1
    go_loopw [6, 5, 7] (fun a b _ wr => ∃ (j i : Nat) (m : List Hold), j ≤ l.length ∧ a = .int .i64 j ∧ b = .int .i64 i ∧ i < j ∧ m.length = l.length ∧ m.take i = ((l.take j).filter fun x => !del x) ∧ m.drop j = l.drop j ∧ Own cHold 4 46 wr base (.slice (some ⟨g, 0, none⟩) l.length c) m ∧
      Step (fun q => (Value.slice (some ⟨g, 0, none⟩) l.length c).ownBlock = some q) w wr) (fun a _ _ _ => l.length - (intOf a).toNat)
    case atStart =>
      exact ⟨i0 + 1, i0, l, by omega, by go_num, rfl, by omega, rfl, htk.out.symm, rfl, hO.out.below hb1, .of_below hb1⟩
    case round =>
      obtain ⟨j, i, m, hj, rfl, rfl, hij, hml, hmt, hmd, hm, hst⟩ := hrel
      have hmt' := Lib.hid hmt
      have hmd' := Lib.hid hmd
      have hm' := Lib.hid hm
      have hst' := Lib.hid hst
      clear hmt hmd hm hst htk
      by_cases hlt : j < l.length
      · have hji : (j : Int) < (l.length : Int) := by omega
        have hii : (i : Int) < (l.length : Int) := by omega
        have hjm : j < m.length := by omega
        have hmj : m[j] = hold l j := by
          have h1 : (m.drop j)[0]? = (l.drop j)[0]? := by rw [hmd'.out]
          rw [List.getElem?_drop, List.getElem?_drop, Nat.add_zero, List.getElem?_eq_getElem hjm, List.getElem?_eq_getElem hlt] at h1
          injection h1 with h1
          rw [h1, hold_get hlt]
        obtain ⟨g1, c1, cur, e1, _, hblk, hcell⟩ := hm'.out.at (fun _ => rfl) hjm
        injection e1 with e1 e2 e3
        injection e1 with e1
        injection e1 with e1
        subst e1
        clear e2 e3
        rw [hmj] at hcell
        clear hmj
        have hml' := Lib.hid hml
        clear hml hjm
        have d0 : wr.cell? ⟨g, j * 4, none⟩ = _ := hcell 0 _ rfl
        have d1 := hcell 1 _ rfl
        have d2 := hcell 2 _ rfl
        have d3 := hcell 3 _ rfl
        have hsa : Step (fun q => (Value.slice (some ⟨g, 0, none⟩) l.length c).ownBlock = some q) w (wr.alloc (.cells #[.int .i64 (hold l j).order, .int .i64 (hold l j).line, .int .i64 (hold l j).bin, .int .i64 (hold l j).n] 46)) := hst'.out.trans (.of_below ((Below.refl _ _).alloc (Nat.le_refl _) _))
        have hbl := Lib.hid (Blk.new wr 46 #[.int .i64 (hold l j).order, .int .i64 (hold l j).line, .int .i64 (hold l j).bin, .int .i64 (hold l j).n])
        have hma := Lib.hid (hm'.out.alloc (.cells #[.int .i64 (hold l j).order, .int .i64 (hold l j).line, .int .i64 (hold l j).bin, .int .i64 (hold l j).n] 46))
        clear hcell hblk
        go_wp2_with fail
        clear d0 d1 d2 d3
        refine (hF.out j hlt _ hsa).mono ?_
        rintro e W3 ⟨rfl, hb3⟩
        have hm3 := hma.out.below hb3
        have hbl3 := hbl.out.below hb3 hbl.out.lt
        have hst3 := Lib.hid (hsa.trans (.of_below hb3))
        have c0 := hbl3.cell (j := 0) rfl
        have c1 := hbl3.cell (j := 1) rfl
        have c2 := hbl3.cell (j := 2) rfl
        have c3 := hbl3.cell (j := 3) rfl
        have hdj : del l[j] = del (hold l j) := by rw [hold_get hlt]
        have hd1 : m.drop (j + 1) = l.drop (j + 1) := by rw [← List.drop_drop, hmd'.out, List.drop_drop]
        have hd1' := Lib.hid hd1
        clear hsa hma hbl hm' hst' hd1
        cases hd : del (hold l j)
        · have hyes := Lib.hid (take_filter_yes hlt (fun x => !del x) (by rw [hdj, hd]; rfl))
          have hw1 : IntKind.i64.wrap ((i : Int) + 1) = (i : Int) + 1 := by rw [IntKind.wrap_i64]; omega
          clear hd hdj
          go_wp2_with (refine wpList_put rfl (.tmp 33) (.tmp 32) 46 rfl rfl hm3 (fun _ => rfl) (i := i) (by rw [hml'.out]; omega) (hold l j) infoHold4 (oneHold _) rfl rfl (fun w4 ho4 hg4 => ?_); refine Hid.out ?_)
          unfold Hid
          have ho4' := Lib.hid ho4
          have hst4 := Lib.hid (hst3.out.trans (.of_grown hg4 fun k hk => hob.out.trans hk))
          clear c0 c1 c2 c3 hm3 hbl3 ho4 hg4 hb3
          go_wp2_with fail
          go_roundw
          case rel =>
            refine ⟨j + 1, i + 1, m.set i (hold l j), by omega, by go_num, by go_num, by omega, by rw [List.length_set]; exact hml'.out, ?_, ?_, ho4'.out, hst4.out⟩
            · rw [hyes.out, ← hmt'.out, hold_get hlt, List.take_succ_eq_append_getElem (by rw [List.length_set, hml'.out]; omega), List.getElem_set_self, List.take_set_of_le (Nat.le_refl _)]
            · rw [List.drop_set_of_lt (by omega), hd1'.out]
          case measure => simp [intOf]; omega
        · have hno := Lib.hid (take_filter_no hlt (fun x => !del x) (by rw [hdj, hd]; rfl))
          have hm3' := Lib.hid hm3
          clear hd hdj hm3 hbl3 hb3
          go_wp2_with fail
          clear c0 c1 c2 c3
          go_roundw
          case rel => exact ⟨j + 1, i, m, by omega, by go_num, rfl, by omega, hml'.out, by rw [hno.out]; exact hmt'.out, hd1'.out, hm3'.out, hst3.out⟩
          case measure => simp [intOf]; omega
      · obtain rfl : j = l.length := by omega
        obtain ⟨W5, hclr, ho5, hg5⟩ := hm'.out.cut (P := Tryz.prog) (fun _ => rfl) (i := i) (by omega) (t := 28) Tryz.underlying28 zeroHold rfl (by simp [Value.cells, Value.oneCell'])
        have hfin := Lib.hid (show m.take i = l.filter fun x => !del x by rw [hmt'.out, List.take_length])
        have ho5' := Lib.hid ho5
        have hst5 := Lib.hid (hst'.out.trans (.of_grown hg5 fun k hk => hob.out.trans hk))
        have hi1 : (i : Int) ≤ (l.length : Int) := by omega
        have hcp := hcap.out
        have hi2 : i ≤ c := by omega
        have hi3 : ¬ c = i := by omega
        have hi4 : i ≤ l.length := by omega
        clear ho5 hg5 hm' hst'
        go_wp2_with fail
        go_ret
        exact ⟨.slice (some ⟨g, 0, none⟩) i c, rfl, by rw [← hfin.out]; exact ho5'.out, hst5.out, rfl⟩
theorem infoMove4 : (Tryz.prog.info? 48).map (·.size) = some 4 := by kernel_rfl
set_option maxHeartbeats 4000000 in
set_option maxRecDepth 100000 in
theorem delFuncMove (w : World) (base : Nat) (v : Value) (l : List Move) (gf : FuncId) (lb : Array Value) (del : Move → Bool) (eg : Enters Tryz.prog gf) (hown : Own cMove 4 48 w base v l) (hn : l.length ≤ 1000000)
    (hf : ∀ k, k < l.length → ∀ W, Step (fun q => v.ownBlock = some q) w W → Calls Tryz.prog gf (#[vMove (moveAt l k)] ++ lb) W fun e W' => e = .returned (.bool (del (moveAt l k))) ∧ Below W.heap.size W W') :
    Calls Tryz.prog 116 #[v, .func (.func gf) #[] lb] w fun e w' => ∃ v', e = .returned v' ∧ Own cMove 4 48 w' base v' (l.filter fun x => !del x) ∧ Step (fun q => v.ownBlock = some q) w w' ∧ v'.ownBlock = v.ownBlock := by
  have hI := Lib.hid (indexFuncMove w v l gf lb del eg (hown.sl (by omega)) (fun k hk W hW => hf k hk W (.of_below hW)))
  have hF := Lib.hid hf
  have hl : l.length ≤ 140737488355232 := by omega
  have eg' : ∀ args w, Sem.run Tryz.prog (callFunc gf args) w = .ok (.enter gf args) w := eg
  obtain ⟨A, c, rfl⟩ := hown.isSlice
  have hO := Lib.hid hown
  clear hown hf
  go_enter Tryz.func116, Tryz.ntmps116
  go_wp2_with fail
  refine hI.out.mono ?_
  rintro e W1 ⟨rfl, hb1⟩
  cases ha : l.any del
  · have hid : idxOf del l = -1 := by unfold idxOf; rw [ha]; rfl
    have hfl := Lib.hid (show (l.filter fun x => !del x) = l from List.filter_eq_self.2 fun x hx => by
      have := List.any_eq_false.1 ha x hx
      simpa using this)
    rw [hid]
    clear hid ha
    go_wp2_with fail
    go_ret
    exact ⟨.slice A l.length c, rfl, by rw [hfl.out]; exact hO.out.below hb1, .of_below hb1, rfl⟩
  · obtain ⟨i0, hi0⟩ : ∃ i0, l.findIdx del = i0 := ⟨_, rfl⟩
    have hid : idxOf del l = (i0 : Int) := by unfold idxOf; rw [ha, hi0]; rfl
    obtain ⟨hlt0, htk0⟩ := take_idx ha
    rw [hi0] at hlt0 htk0
    obtain ⟨g, c', hv, hgb, hgl⟩ := hO.out.some_ (by omega)
    injection hv with e1 _ e2
    subst e1 e2
    rw [hid]
    have hne1 : ((i0 : Int) == -1) = false := by simp
    have hw0 : IntKind.i64.wrap ((i0 : Int) + 1) = (i0 : Int) + 1 := by rw [IntKind.wrap_i64]; omega
    have hob := Lib.hid (show (Value.slice (some ⟨g, 0, none⟩) l.length c).ownBlock = some g from rfl)
    have htk := Lib.hid htk0
    have hcap := Lib.hid (show l.length ≤ c ∧ c ≤ 9223372036854775807 from by
      obtain ⟨g2, c2, cur, e1, _, _, h2, h3, _⟩ := hO.out.row (by omega)
      injection e1 with _ _ e2
      subst e2
      unfold maxLen at h3
      exact ⟨h2, by omega⟩)
    clear hid ha hi0 htk0
    go_wp2_with fail
    clear hw0 hne1
    go_loopw [6, 5, 7] (fun a b _ wr => ∃ (j i : Nat) (m : List Move), j ≤ l.length ∧ a = .int .i64 j ∧ b = .int .i64 i ∧ i < j ∧ m.length = l.length ∧ m.take i = ((l.take j).filter fun x => !del x) ∧ m.drop j = l.drop j ∧ Own cMove 4 48 wr base (.slice (some ⟨g, 0, none⟩) l.length c) m ∧
      Step (fun q => (Value.slice (some ⟨g, 0, none⟩) l.length c).ownBlock = some q) w wr) (fun a _ _ _ => l.length - (intOf a).toNat)
    case atStart =>
      exact ⟨i0 + 1, i0, l, by omega, by go_num, rfl, by omega, rfl, htk.out.symm, rfl, hO.out.below hb1, .of_below hb1⟩
    case round =>
      obtain ⟨j, i, m, hj, rfl, rfl, hij, hml, hmt, hmd, hm, hst⟩ := hrel
      have hmt' := Lib.hid hmt
      have hmd' := Lib.hid hmd
      have hm' := Lib.hid hm
      have hst' := Lib.hid hst
      clear hmt hmd hm hst htk
      by_cases hlt : j < l.length
      · have hji : (j : Int) < (l.length : Int) := by omega
        have hii : (i : Int) < (l.length : Int) := by omega
        have hjm : j < m.length := by omega
        have hmj : m[j] = moveAt l j := by
          have h1 : (m.drop j)[0]? = (l.drop j)[0]? := by rw [hmd'.out]
          rw [List.getElem?_drop, List.getElem?_drop, Nat.add_zero, List.getElem?_eq_getElem hjm, List.getElem?_eq_getElem hlt] at h1
          injection h1 with h1
          rw [h1, moveAt_eq hlt]
        obtain ⟨g1, c1, cur, e1, _, hblk, hcell⟩ := hm'.out.at (fun _ => rfl) hjm
        injection e1 with e1 e2 e3
        injection e1 with e1
        injection e1 with e1
        subst e1
        clear e2 e3
        rw [hmj] at hcell
        clear hmj
        have hml' := Lib.hid hml
        clear hml hjm
        have d0 : wr.cell? ⟨g, j * 4, none⟩ = _ := hcell 0 _ rfl
        have d1 := hcell 1 _ rfl
        have d2 := hcell 2 _ rfl
        have d3 := hcell 3 _ rfl
        have hsa : Step (fun q => (Value.slice (some ⟨g, 0, none⟩) l.length c).ownBlock = some q) w (wr.alloc (.cells #[.int .i64 (moveAt l j).good, .int .i64 (moveAt l j).src, .int .i64 (moveAt l j).dst, .int .i64 (moveAt l j).n] 48)) := hst'.out.trans (.of_below ((Below.refl _ _).alloc (Nat.le_refl _) _))
        have hbl := Lib.hid (Blk.new wr 48 #[.int .i64 (moveAt l j).good, .int .i64 (moveAt l j).src, .int .i64 (moveAt l j).dst, .int .i64 (moveAt l j).n])
        have hma := Lib.hid (hm'.out.alloc (.cells #[.int .i64 (moveAt l j).good, .int .i64 (moveAt l j).src, .int .i64 (moveAt l j).dst, .int .i64 (moveAt l j).n] 48))
        clear hcell hblk
        go_wp2_with fail
        clear d0 d1 d2 d3
        refine (hF.out j hlt _ hsa).mono ?_
        rintro e W3 ⟨rfl, hb3⟩
        have hm3 := hma.out.below hb3
        have hbl3 := hbl.out.below hb3 hbl.out.lt
        have hst3 := Lib.hid (hsa.trans (.of_below hb3))
        have c0 := hbl3.cell (j := 0) rfl
        have c1 := hbl3.cell (j := 1) rfl
        have c2 := hbl3.cell (j := 2) rfl
        have c3 := hbl3.cell (j := 3) rfl
        have hdj : del l[j] = del (moveAt l j) := by rw [moveAt_eq hlt]
        have hd1 : m.drop (j + 1) = l.drop (j + 1) := by rw [← List.drop_drop, hmd'.out, List.drop_drop]
        have hd1' := Lib.hid hd1
        clear hsa hma hbl hm' hst' hd1
        cases hd : del (moveAt l j)
        · have hyes := Lib.hid (take_filter_yes hlt (fun x => !del x) (by rw [hdj, hd]; rfl))
          have hw1 : IntKind.i64.wrap ((i : Int) + 1) = (i : Int) + 1 := by rw [IntKind.wrap_i64]; omega
          clear hd hdj
          go_wp2_with (refine wpList_put rfl (.tmp 33) (.tmp 32) 48 rfl rfl hm3 (fun _ => rfl) (i := i) (by rw [hml'.out]; omega) (moveAt l j) infoMove4 (oneMove _) rfl rfl (fun w4 ho4 hg4 => ?_); refine Hid.out ?_)
          unfold Hid
          have ho4' := Lib.hid ho4
          have hst4 := Lib.hid (hst3.out.trans (.of_grown hg4 fun k hk => hob.out.trans hk))
          clear c0 c1 c2 c3 hm3 hbl3 ho4 hg4 hb3
          go_wp2_with fail
          go_roundw
          case rel =>
            refine ⟨j + 1, i + 1, m.set i (moveAt l j), by omega, by go_num, by go_num, by omega, by rw [List.length_set]; exact hml'.out, ?_, ?_, ho4'.out, hst4.out⟩
            · rw [hyes.out, ← hmt'.out, moveAt_eq hlt, List.take_succ_eq_append_getElem (by rw [List.length_set, hml'.out]; omega), List.getElem_set_self, List.take_set_of_le (Nat.le_refl _)]
            · rw [List.drop_set_of_lt (by omega), hd1'.out]
          case measure => simp [intOf]; omega
        · have hno := Lib.hid (take_filter_no hlt (fun x => !del x) (by rw [hdj, hd]; rfl))
          have hm3' := Lib.hid hm3
          clear hd hdj hm3 hbl3 hb3
          go_wp2_with fail
          clear c0 c1 c2 c3
          go_roundw
          case rel => exact ⟨j + 1, i, m, by omega, by go_num, rfl, by omega, hml'.out, by rw [hno.out]; exact hmt'.out, hd1'.out, hm3'.out, hst3.out⟩
          case measure => simp [intOf]; omega
      · obtain rfl : j = l.length := by omega
        obtain ⟨W5, hclr, ho5, hg5⟩ := hm'.out.cut (P := Tryz.prog) (fun _ => rfl) (i := i) (by omega) (t := 29) Tryz.underlying29 zeroMove rfl (by simp [Value.cells, Value.oneCell'])
        have hfin := Lib.hid (show m.take i = l.filter fun x => !del x by rw [hmt'.out, List.take_length])
        have ho5' := Lib.hid ho5
        have hst5 := Lib.hid (hst'.out.trans (.of_grown hg5 fun k hk => hob.out.trans hk))
        have hi1 : (i : Int) ≤ (l.length : Int) := by omega
        have hcp := hcap.out
        have hi2 : i ≤ c := by omega
        have hi3 : ¬ c = i := by omega
        have hi4 : i ≤ l.length := by omega
        clear ho5 hg5 hm' hst'
        go_wp2_with fail
        go_ret
        exact ⟨.slice (some ⟨g, 0, none⟩) i c, rfl, by rw [← hfin.out]; exact ho5'.out, hst5.out, rfl⟩
end Wh
