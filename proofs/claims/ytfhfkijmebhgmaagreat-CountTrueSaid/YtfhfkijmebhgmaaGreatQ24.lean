/- Texts of the claim, joined: RelC, RelD, PickB, StateN, StateP, RecvL, AllocL, CountG, FillD. -/
import Derived.StillTailTactics
import Derived.BigQuiet
import Derived.Test.YtfhfkijmebhgmaaGreatQ16
import Derived.Test.YtfhfkijmebhgmaaGreatQ19
import Derived.Test.YtfhfkijmebhgmaaGreatQ18
import Derived.Test.YtfhfkijmebhgmaaGreatQ03
import Derived.Test.YtfhfkijmebhgmaaGreatQ05
import Derived.Test.YtfhfkijmebhgmaaGreatQ06
import Derived.Test.YtfhfkijmebhgmaaGreatQ07
import Derived.Test.YtfhfkijmebhgmaaGreatQ13
import Derived.Test.YtfhfkijmebhgmaaGreatQ12
import Derived.Test.YtfhfkijmebhgmaaGreatQ09
import Derived.Test.YtfhfkijmebhgmaaGreatQ04
import Derived.Test.YtfhfkijmebhgmaaGreatQ08
import Derived.Test.YtfhfkijmebhgmaaGreatQ23
namespace Wh
open Go Go.RowKit
section
variable {P : Program} {l : List Oper} {n : Nat} {R : Nat → Nat → (Nat → Value) → World → Prop} {Q : Exit → Act → World → Prop} {a : Act} {w : World}
def stepN (b1 b2 i ph : Nat) : Nat := if i = b1 then 1 else if i = b2 then 2 else ph
def bkN (b1 b2 k : Nat) : Nat := if k = 0 then b1 else b2
/-- What is to be shown of one operation. -/
def StepPh (P : Program) (l : List Oper) (n : Nat) (R : Nat → Nat → (Nat → Value) → World → Prop) (Q : Exit → Act → World → Prop) (a : Act) (T : World → Prop) (Eb : Nat → World → World → Prop) (b1 b2 i : Nat) (o : Oper) : Prop :=
  ∀ ph f w', T w' → (i = b1 → ph = 0) → (i = b2 → ph = 1) → Deps n (R ph) f w' o →
    o.wp P (fillA a (l.take n) f) w' (fun a' w'' => ∃ v, a' = (fillA a (l.take n) f).put o.dst v ∧ R (stepN b1 b2 i ph) i (updO f o.dst v) w'' ∧ ((i ≠ b1 ∧ i ≠ b2 ∧ Below w'.heap.size w' w'') ∨ (i = b1 ∧ Eb 0 w' w'') ∨ (i = b2 ∧ Eb 1 w' w''))) Q
theorem StepPh.of {T : World → Prop} {Eb : Nat → World → World → Prop} {b1 b2 : Nat} {i : Nat} {o : Oper} (hi : i < n) (hB : relB l n = true) (hsz : ((l.take n).filterMap (·.dst)).all (fun d => decide (d < a.tmps.size)) = true)
    (hsup : ∀ ph i g g' w, (∀ j o d, Anc l j i → l[j]? = some o → o.dst = some d → g d = g' d) → R ph i g w → R ph i g' w)
    (h : ∀ ph (g : Nat → Value) w', T w' → (i = b1 → ph = 0) → (i = b2 → ph = 1) → (∀ d, ((l.take n).filterMap (·.dst)).contains d = false → g d = a.tmps.getD d undef) → Deps n (R ph) g w' o → OpRel P o (evL g) w' fun v w'' => R (stepN b1 b2 i ph) i (updO g o.dst v) w'' ∧ ((i ≠ b1 ∧ i ≠ b2 ∧ Below w'.heap.size w' w'') ∨ (i = b1 ∧ Eb 0 w' w'') ∨ (i = b2 ∧ Eb 1 w' w''))) :
    StepPh P l n R Q a T Eb b1 b2 i o := by
  simp only [relB, Bool.and_eq_true, Bool.or_eq_true, decide_eq_true_eq, List.all_eq_true] at hB
  obtain ⟨_, hback⟩ := hB
  have hback' : ∀ k oe, k < n → l[k]? = some oe → ∀ e ∈ oe.after, Region.binds .any e = true → e.on < k := fun k oe hk hoe e he hbd => by
    have := hback k (List.mem_range.2 hk)
    rw [hoe] at this
    simp only [Option.map_some, Option.getD_some, Array.all_eq_true_iff_forall_mem, Bool.or_eq_true, Bool.not_eq_true', decide_eq_true_eq] at this
    rcases this e he with h | h
    · rw [h] at hbd; cases hbd
    · exact h
  have hanc : ∀ j k, Anc l j k → k < n → j < n := by
    intro j k h
    induction h with
    | self => exact id
    | back ho he hbd hon _ ih =>
      intro h1
      subst hon
      have := hback' _ _ h1 ho _ he hbd
      exact ih (by omega)
  have hsz' : ∀ d ∈ (l.take n).filterMap (·.dst), d < a.tmps.size := fun d hd => by
    have := List.all_eq_true.1 hsz d hd
    simpa using this
  intro ph f w' hb hj hj2 hd
  have hg : ∀ d ∈ (l.take n).filterMap (·.dst), (fillA a (l.take n) f).tmps.getD d undef = f d := fun d hd => by
    have h1 := fillT_get ((l.take n).filterMap (·.dst)) f a.tmps d
    rw [if_pos (hsz' d hd), if_pos hd] at h1
    unfold fillA
    simp only [Array.getD_eq_getD_getElem?, h1, Option.getD_some]
  have ho : ∀ d, ((l.take n).filterMap (·.dst)).contains d = false → (fillA a (l.take n) f).tmps.getD d undef = a.tmps.getD d undef := fun d hd => by
    have h1 := fillT_get ((l.take n).filterMap (·.dst)) f a.tmps d
    have h2 : d ∉ (l.take n).filterMap (·.dst) := by simpa using hd
    rw [if_neg h2] at h1
    unfold fillA
    simp only [Array.getD_eq_getD_getElem?, h1]
    by_cases hl : d < a.tmps.size
    · rw [if_pos hl]
    · rw [if_neg hl, Array.getElem?_eq_none (Nat.le_of_not_lt hl)]
  have key := h ph (fun d => (fillA a (l.take n) f).tmps.getD d undef) w' hb hj hj2 ho (fun e he hbd hen => hsup _ e.on f _ _ (fun j oj d haj hoj hdj => (hg d (dst_mem hoj (hanc _ _ haj hen) hdj)).symm) (hd e he hbd hen))
  rw [← evL_eval] at key
  refine Oper.wp_mono ?_ key.wp
  rintro a' w'' ⟨v, rfl, hr, hbw⟩
  refine ⟨v, rfl, hsup _ i _ _ _ (fun j oj d haj hoj hdj => ?_) hr, hbw⟩
  have hjn := hanc _ _ haj hi
  have hmem := dst_mem hoj hjn hdj
  cases hdst : o.dst with
  | none => exact hg d hmem
  | some d0 =>
    unfold updO upd
    simp only
    split
    · rfl
    · exact hg d hmem

def atP (Rs : List (Nat → RelP)) (ph : Nat) (i : Nat) : RelP := Rs.getD i (fun _ _ _ => True) ph
/-- One operation: what it says stays, hangs on what came before it alone, and comes. -/
def OpPh (P : Program) (l : List Oper) (n : Nat) (Rs : List (Nat → RelP)) (a : Act) (T : World → Prop) (Eb : Nat → World → World → Prop) (b1 b2 i : Nat) (o : Oper) (p : Nat → RelP) : Prop :=
  (∀ ph g w1 w2, p ph g w1 → Below w1.heap.size w1 w2 → p ph g w2) ∧ (∀ k, k ≤ 1 → i ≠ bkN b1 b2 k → ∀ g w1 w2, p k g w1 → Eb k w1 w2 → p (k + 1) g w2) ∧ (∀ ph g g' w, (∀ j o d, Anc l j i → l[j]? = some o → o.dst = some d → g d = g' d) → p ph g w → p ph g' w) ∧
  ∀ ph g w', T w' → (i = b1 → ph = 0) → (i = b2 → ph = 1) → (∀ d, ((l.take n).filterMap (·.dst)).contains d = false → g d = a.tmps.getD d undef) → Deps n (atP Rs ph) g w' o →
    OpRel P o (evL g) w' fun v w'' => p (stepN b1 b2 i ph) (updO g o.dst v) w'' ∧ ((i ≠ b1 ∧ i ≠ b2 ∧ Below w'.heap.size w' w'') ∨ (i = b1 ∧ Eb 0 w' w'') ∨ (i = b2 ∧ Eb 1 w' w''))
def OpsPh (P : Program) (l : List Oper) (n : Nat) (Rs : List (Nat → RelP)) (a : Act) (T : World → Prop) (Eb : Nat → World → World → Prop) (b1 b2 : Nat) : Nat → List Oper → List (Nat → RelP) → Prop
  | _, [], _ => True
  | _, _ :: _, [] => False
  | i, o :: r, p :: ps => OpPh P l n Rs a T Eb b1 b2 i o p ∧ OpsPh P l n Rs a T Eb b1 b2 (i + 1) r ps
section
variable {Rs : List (Nat → RelP)} {T : World → Prop} {Eb : Nat → World → World → Prop} {b1 b2 : Nat}
theorem OpsPh.at : ∀ {r : List Oper} {ps : List (Nat → RelP)} {k : Nat}, OpsPh P l n Rs a T Eb b1 b2 k r ps → ∀ {j : Nat} {o : Oper}, r[j]? = some o → OpPh P l n Rs a T Eb b1 b2 (k + j) o (ps.getD j (fun _ _ _ => True))
  | [], _, _, _, _, _, h => by simp at h
  | _ :: _, [], _, h, _, _, _ => h.elim
  | x :: r, p :: ps, k, h, 0, o, hj => by
    simp at hj
    subst hj
    exact h.1
  | x :: r, p :: ps, k, h, j + 1, o, hj => by
    have := OpsPh.at h.2 (j := j) (o := o) (by simpa using hj)
    rw [show k + 1 + j = k + (j + 1) by omega] at this
    simpa using this
theorem OpsPh.nil {i : Nat} {ps : List (Nat → RelP)} : OpsPh P l n Rs a T Eb b1 b2 i [] ps := by cases ps <;> trivial
theorem OpsPh.cons {i : Nat} {o : Oper} {r : List Oper} {p : Nat → RelP} {ps : List (Nat → RelP)} (h : OpPh P l n Rs a T Eb b1 b2 i o p) (h' : OpsPh P l n Rs a T Eb b1 b2 (i + 1) r ps) : OpsPh P l n Rs a T Eb b1 b2 i (o :: r) (p :: ps) := ⟨h, h'⟩
end
section
variable {Rs : List (Nat → RelP)} {T : World → Prop} {Eb : Nat → World → World → Prop} {b1 b2 : Nat}
theorem OpPh.val {i d : Nat} {o : Oper} {c : Value} (hi : l[i]? = some o) (ho : o.dst = some d) (hne : i ≠ b1) (hne2 : i ≠ b2)
    (h : ∀ ph g w', T w' → (∀ d, ((l.take n).filterMap (·.dst)).contains d = false → g d = a.tmps.getD d undef) → Deps n (atP Rs ph) g w' o → (execOp (evL g) o).run P w' = .ok (.value c) w') :
    OpPh P l n Rs a T Eb b1 b2 i o (fun _ g _ => g d = c) := by
  refine ⟨fun _ _ _ _ h _ => h, fun _ _ _ _ _ _ h _ => h, fun _ g g' _ he h => (he i o d (Anc.self i) hi ho).symm.trans h, fun ph g w' hb _ _ hout hd => ?_⟩
  unfold OpRel
  rw [h ph g w' hb hout hd]
  refine ⟨?_, .inl ⟨hne, hne2, Below.refl _ _⟩⟩
  rw [ho]
  unfold updO upd
  simp
theorem OpPh.one {i d : Nat} {o : Oper} {p : Nat → Value → World → Prop} (hi : l[i]? = some o) (ho : o.dst = some d) (hne : i ≠ b1) (hne2 : i ≠ b2) (hst : ∀ ph v w1 w2, p ph v w1 → Below w1.heap.size w1 w2 → p ph v w2) (hst2 : ∀ k v w1 w2, k ≤ 1 → p k v w1 → Eb k w1 w2 → p (k + 1) v w2)
    (h : ∀ ph g w', T w' → (∀ d, ((l.take n).filterMap (·.dst)).contains d = false → g d = a.tmps.getD d undef) → Deps n (atP Rs ph) g w' o → OpRel P o (evL g) w' fun v w'' => p ph v w'' ∧ Below w'.heap.size w' w'') :
    OpPh P l n Rs a T Eb b1 b2 i o (fun ph g w => p ph (g d) w) := by
  refine ⟨fun ph g w1 w2 h hb => hst _ _ _ _ h hb, fun k hk _ g w1 w2 h hb => hst2 k _ _ _ hk h hb, fun ph g g' w1 he h => ?_, fun ph g w' hb _ _ hout hd => ?_⟩
  · show p ph (g' d) w1
    rw [← he i o d (Anc.self i) hi ho]
    exact h
  · have h1 := h ph g w' hb hout hd
    unfold stepN
    rw [ho, if_neg hne, if_neg hne2]
    have e : ∀ v, updO g (some d) v d = v := fun v => by unfold updO upd; simp
    simp only [e]
    exact OpRel.mono (fun v w'' h => ⟨h.1, .inl ⟨hne, hne2, h.2⟩⟩) h1
/-- The first operation that writes. -/
theorem OpPh.first {d : Nat} {o : Oper} {p : Nat → Value → World → Prop} (hi : l[b1]? = some o) (ho : o.dst = some d) (hst : ∀ ph v w1 w2, p ph v w1 → Below w1.heap.size w1 w2 → p ph v w2) (hst2 : ∀ v w1 w2, p 1 v w1 → Eb 1 w1 w2 → p 2 v w2)
    (h : ∀ g w', T w' → (∀ d, ((l.take n).filterMap (·.dst)).contains d = false → g d = a.tmps.getD d undef) → Deps n (atP Rs 0) g w' o → OpRel P o (evL g) w' fun v w'' => p 1 v w'' ∧ Eb 0 w' w'') :
    OpPh P l n Rs a T Eb b1 b2 b1 o (fun ph g w => p ph (g d) w) := by
  refine ⟨fun ph g w1 w2 h hb => hst _ _ _ _ h hb, fun k hk hne g w1 w2 h hb => ?_, fun ph g g' w1 he h => ?_, fun ph g w' hb hph _ hout hd => ?_⟩
  · rcases (show k = 0 ∨ k = 1 by omega) with rfl | rfl
    · exact absurd rfl hne
    · exact hst2 _ _ _ h hb
  · show p ph (g' d) w1
    rw [← he b1 o d (Anc.self b1) hi ho]
    exact h
  · obtain rfl := hph rfl
    have h1 := h g w' hb hout hd
    have e1 : stepN b1 b2 b1 0 = 1 := if_pos rfl
    have e : ∀ v, updO g (some d) v d = v := fun v => by unfold updO upd; simp
    rw [ho, e1]
    refine OpRel.mono (fun v w'' h => ⟨?_, .inr (.inl ⟨rfl, h.2⟩)⟩) h1
    show p 1 (updO g (some d) v d) w''
    rw [e]
    exact h.1
/-- The second operation that writes, a store. -/
theorem OpPh.second {o : Oper} {p : (Nat → Value) → World → Prop} (hb12 : b1 ≠ b2) (ho : o.dst = none) (hst : ∀ g w1 w2, p g w1 → Below w1.heap.size w1 w2 → p g w2)
    (hsup : ∀ g g' w, (∀ j o d, Anc l j b2 → l[j]? = some o → o.dst = some d → g d = g' d) → p g w → p g' w)
    (h : ∀ g w', T w' → (∀ d, ((l.take n).filterMap (·.dst)).contains d = false → g d = a.tmps.getD d undef) → Deps n (atP Rs 1) g w' o → OpRel P o (evL g) w' fun _ w'' => p g w'' ∧ Eb 1 w' w'') :
    OpPh P l n Rs a T Eb b1 b2 b2 o (fun ph g w => ph = 2 ∧ p g w) := by
  refine ⟨fun ph g w1 w2 h hb => ⟨h.1, hst _ _ _ h.2 hb⟩, fun k hk hne g w1 w2 h hb => ?_, fun ph g g' w1 he h => ⟨h.1, hsup g g' w1 he h.2⟩, fun ph g w' hb _ hph hout hd => ?_⟩
  · exact absurd h.1 (by omega)
  · obtain rfl := hph rfl
    have h1 := h g w' hb hout hd
    have e1 : stepN b1 b2 b2 1 = 2 := by unfold stepN; rw [if_neg (fun e => hb12 e.symm), if_pos rfl]
    rw [ho, e1]
    exact OpRel.mono (fun v w'' h => ⟨⟨rfl, h.1⟩, .inr (.inr ⟨rfl, h.2⟩)⟩) h1
end
end
end Wh
namespace Wh
open Go Go.RowKit
section
variable {P : Program} {l : List Oper} {n : Nat} {R : Nat → Nat → (Nat → Value) → World → Prop} {Q : Exit → Act → World → Prop} {a : Act} {w : World}
/-- What is to be shown of one operation. -/
def StepD (P : Program) (l : List Oper) (n : Nat) (R : Nat → Nat → (Nat → Value) → World → Prop) (Q : Exit → Act → World → Prop) (a : Act) (T : Nat → World → Prop) (Eb : Nat → World → World → Prop) (b1 b2 i : Nat) (o : Oper) : Prop :=
  ∀ ph f w', T ph w' → (i = b1 → ph = 0) → (i = b2 → ph = 1) → Deps n (R ph) f w' o →
    o.wp P (fillA a (l.take n) f) w' (fun a' w'' => ∃ v, a' = (fillA a (l.take n) f).put o.dst v ∧ R (stepN b1 b2 i ph) i (updO f o.dst v) w'' ∧ ((i ≠ b1 ∧ i ≠ b2 ∧ Below w'.heap.size w' w'') ∨ (i = b1 ∧ Eb 0 w' w'') ∨ (i = b2 ∧ Eb 1 w' w''))) Q
theorem StepD.of {T : Nat → World → Prop} {Eb : Nat → World → World → Prop} {b1 b2 : Nat} {i : Nat} {o : Oper} (hi : i < n) (hB : relB l n = true) (hsz : ((l.take n).filterMap (·.dst)).all (fun d => decide (d < a.tmps.size)) = true)
    (hsup : ∀ ph i g g' w, (∀ j o d, Anc l j i → l[j]? = some o → o.dst = some d → g d = g' d) → R ph i g w → R ph i g' w)
    (h : ∀ ph (g : Nat → Value) w', T ph w' → (i = b1 → ph = 0) → (i = b2 → ph = 1) → (∀ d, ((l.take n).filterMap (·.dst)).contains d = false → g d = a.tmps.getD d undef) → Deps n (R ph) g w' o → OpRel P o (evL g) w' fun v w'' => R (stepN b1 b2 i ph) i (updO g o.dst v) w'' ∧ ((i ≠ b1 ∧ i ≠ b2 ∧ Below w'.heap.size w' w'') ∨ (i = b1 ∧ Eb 0 w' w'') ∨ (i = b2 ∧ Eb 1 w' w''))) :
    StepD P l n R Q a T Eb b1 b2 i o := by
  simp only [relB, Bool.and_eq_true, Bool.or_eq_true, decide_eq_true_eq, List.all_eq_true] at hB
  obtain ⟨_, hback⟩ := hB
  have hback' : ∀ k oe, k < n → l[k]? = some oe → ∀ e ∈ oe.after, Region.binds .any e = true → e.on < k := fun k oe hk hoe e he hbd => by
    have := hback k (List.mem_range.2 hk)
    rw [hoe] at this
    simp only [Option.map_some, Option.getD_some, Array.all_eq_true_iff_forall_mem, Bool.or_eq_true, Bool.not_eq_true', decide_eq_true_eq] at this
    rcases this e he with h | h
    · rw [h] at hbd; cases hbd
    · exact h
  have hanc : ∀ j k, Anc l j k → k < n → j < n := by
    intro j k h
    induction h with
    | self => exact id
    | back ho he hbd hon _ ih =>
      intro h1
      subst hon
      have := hback' _ _ h1 ho _ he hbd
      exact ih (by omega)
  have hsz' : ∀ d ∈ (l.take n).filterMap (·.dst), d < a.tmps.size := fun d hd => by
    have := List.all_eq_true.1 hsz d hd
    simpa using this
  intro ph f w' hb hj hj2 hd
  have hg : ∀ d ∈ (l.take n).filterMap (·.dst), (fillA a (l.take n) f).tmps.getD d undef = f d := fun d hd => by
    have h1 := fillT_get ((l.take n).filterMap (·.dst)) f a.tmps d
    rw [if_pos (hsz' d hd), if_pos hd] at h1
    unfold fillA
    simp only [Array.getD_eq_getD_getElem?, h1, Option.getD_some]
  have ho : ∀ d, ((l.take n).filterMap (·.dst)).contains d = false → (fillA a (l.take n) f).tmps.getD d undef = a.tmps.getD d undef := fun d hd => by
    have h1 := fillT_get ((l.take n).filterMap (·.dst)) f a.tmps d
    have h2 : d ∉ (l.take n).filterMap (·.dst) := by simpa using hd
    rw [if_neg h2] at h1
    unfold fillA
    simp only [Array.getD_eq_getD_getElem?, h1]
    by_cases hl : d < a.tmps.size
    · rw [if_pos hl]
    · rw [if_neg hl, Array.getElem?_eq_none (Nat.le_of_not_lt hl)]
  have key := h ph (fun d => (fillA a (l.take n) f).tmps.getD d undef) w' hb hj hj2 ho (fun e he hbd hen => hsup _ e.on f _ _ (fun j oj d haj hoj hdj => (hg d (dst_mem hoj (hanc _ _ haj hen) hdj)).symm) (hd e he hbd hen))
  rw [← evL_eval] at key
  refine Oper.wp_mono ?_ key.wp
  rintro a' w'' ⟨v, rfl, hr, hbw⟩
  refine ⟨v, rfl, hsup _ i _ _ _ (fun j oj d haj hoj hdj => ?_) hr, hbw⟩
  have hjn := hanc _ _ haj hi
  have hmem := dst_mem hoj hjn hdj
  cases hdst : o.dst with
  | none => exact hg d hmem
  | some d0 =>
    unfold updO upd
    simp only
    split
    · rfl
    · exact hg d hmem

/-- One operation: what it says stays, hangs on what came before it alone, and comes. -/
def OpD (P : Program) (l : List Oper) (n : Nat) (Rs : List (Nat → RelP)) (a : Act) (T : Nat → World → Prop) (Eb : Nat → World → World → Prop) (b1 b2 i : Nat) (o : Oper) (p : Nat → RelP) : Prop :=
  (∀ ph g w1 w2, p ph g w1 → Below w1.heap.size w1 w2 → p ph g w2) ∧ (∀ k, k ≤ 1 → i ≠ bkN b1 b2 k → ∀ g w1 w2, p k g w1 → Eb k w1 w2 → p (k + 1) g w2) ∧ (∀ ph g g' w, (∀ j o d, Anc l j i → l[j]? = some o → o.dst = some d → g d = g' d) → p ph g w → p ph g' w) ∧
  ∀ ph g w', T ph w' → (i = b1 → ph = 0) → (i = b2 → ph = 1) → (∀ d, ((l.take n).filterMap (·.dst)).contains d = false → g d = a.tmps.getD d undef) → Deps n (atP Rs ph) g w' o →
    OpRel P o (evL g) w' fun v w'' => p (stepN b1 b2 i ph) (updO g o.dst v) w'' ∧ ((i ≠ b1 ∧ i ≠ b2 ∧ Below w'.heap.size w' w'') ∨ (i = b1 ∧ Eb 0 w' w'') ∨ (i = b2 ∧ Eb 1 w' w''))
def OpsD (P : Program) (l : List Oper) (n : Nat) (Rs : List (Nat → RelP)) (a : Act) (T : Nat → World → Prop) (Eb : Nat → World → World → Prop) (b1 b2 : Nat) : Nat → List Oper → List (Nat → RelP) → Prop
  | _, [], _ => True
  | _, _ :: _, [] => False
  | i, o :: r, p :: ps => OpD P l n Rs a T Eb b1 b2 i o p ∧ OpsD P l n Rs a T Eb b1 b2 (i + 1) r ps
section
variable {Rs : List (Nat → RelP)} {T : Nat → World → Prop} {Eb : Nat → World → World → Prop} {b1 b2 : Nat}
theorem OpsD.at : ∀ {r : List Oper} {ps : List (Nat → RelP)} {k : Nat}, OpsD P l n Rs a T Eb b1 b2 k r ps → ∀ {j : Nat} {o : Oper}, r[j]? = some o → OpD P l n Rs a T Eb b1 b2 (k + j) o (ps.getD j (fun _ _ _ => True))
  | [], _, _, _, _, _, h => by simp at h
  | _ :: _, [], _, h, _, _, _ => h.elim
  | x :: r, p :: ps, k, h, 0, o, hj => by
    simp at hj
    subst hj
    exact h.1
  | x :: r, p :: ps, k, h, j + 1, o, hj => by
    have := OpsD.at h.2 (j := j) (o := o) (by simpa using hj)
    rw [show k + 1 + j = k + (j + 1) by omega] at this
    simpa using this
theorem OpsD.nil {i : Nat} {ps : List (Nat → RelP)} : OpsD P l n Rs a T Eb b1 b2 i [] ps := by cases ps <;> trivial
theorem OpsD.cons {i : Nat} {o : Oper} {r : List Oper} {p : Nat → RelP} {ps : List (Nat → RelP)} (h : OpD P l n Rs a T Eb b1 b2 i o p) (h' : OpsD P l n Rs a T Eb b1 b2 (i + 1) r ps) : OpsD P l n Rs a T Eb b1 b2 i (o :: r) (p :: ps) := ⟨h, h'⟩
end
section
variable {Rs : List (Nat → RelP)} {T : Nat → World → Prop} {Eb : Nat → World → World → Prop} {b1 b2 : Nat}
theorem OpD.val {i d : Nat} {o : Oper} {c : Value} (hi : l[i]? = some o) (ho : o.dst = some d) (hne : i ≠ b1) (hne2 : i ≠ b2)
    (h : ∀ ph g w', T ph w' → (∀ d, ((l.take n).filterMap (·.dst)).contains d = false → g d = a.tmps.getD d undef) → Deps n (atP Rs ph) g w' o → (execOp (evL g) o).run P w' = .ok (.value c) w') :
    OpD P l n Rs a T Eb b1 b2 i o (fun _ g _ => g d = c) := by
  refine ⟨fun _ _ _ _ h _ => h, fun _ _ _ _ _ _ h _ => h, fun _ g g' _ he h => (he i o d (Anc.self i) hi ho).symm.trans h, fun ph g w' hb _ _ hout hd => ?_⟩
  unfold OpRel
  rw [h ph g w' hb hout hd]
  refine ⟨?_, .inl ⟨hne, hne2, Below.refl _ _⟩⟩
  rw [ho]
  unfold updO upd
  simp
theorem OpD.one {i d : Nat} {o : Oper} {p : Nat → Value → World → Prop} (hi : l[i]? = some o) (ho : o.dst = some d) (hne : i ≠ b1) (hne2 : i ≠ b2) (hst : ∀ ph v w1 w2, p ph v w1 → Below w1.heap.size w1 w2 → p ph v w2) (hst2 : ∀ k v w1 w2, k ≤ 1 → p k v w1 → Eb k w1 w2 → p (k + 1) v w2)
    (h : ∀ ph g w', T ph w' → (∀ d, ((l.take n).filterMap (·.dst)).contains d = false → g d = a.tmps.getD d undef) → Deps n (atP Rs ph) g w' o → OpRel P o (evL g) w' fun v w'' => p ph v w'' ∧ Below w'.heap.size w' w'') :
    OpD P l n Rs a T Eb b1 b2 i o (fun ph g w => p ph (g d) w) := by
  refine ⟨fun ph g w1 w2 h hb => hst _ _ _ _ h hb, fun k hk _ g w1 w2 h hb => hst2 k _ _ _ hk h hb, fun ph g g' w1 he h => ?_, fun ph g w' hb _ _ hout hd => ?_⟩
  · show p ph (g' d) w1
    rw [← he i o d (Anc.self i) hi ho]
    exact h
  · have h1 := h ph g w' hb hout hd
    unfold stepN
    rw [ho, if_neg hne, if_neg hne2]
    have e : ∀ v, updO g (some d) v d = v := fun v => by unfold updO upd; simp
    simp only [e]
    exact OpRel.mono (fun v w'' h => ⟨h.1, .inl ⟨hne, hne2, h.2⟩⟩) h1
/-- The first operation that writes. -/
theorem OpD.first {d : Nat} {o : Oper} {p : Nat → Value → World → Prop} (hi : l[b1]? = some o) (ho : o.dst = some d) (hst : ∀ ph v w1 w2, p ph v w1 → Below w1.heap.size w1 w2 → p ph v w2) (hst2 : ∀ v w1 w2, p 1 v w1 → Eb 1 w1 w2 → p 2 v w2)
    (h : ∀ g w', T 0 w' → (∀ d, ((l.take n).filterMap (·.dst)).contains d = false → g d = a.tmps.getD d undef) → Deps n (atP Rs 0) g w' o → OpRel P o (evL g) w' fun v w'' => p 1 v w'' ∧ Eb 0 w' w'') :
    OpD P l n Rs a T Eb b1 b2 b1 o (fun ph g w => p ph (g d) w) := by
  refine ⟨fun ph g w1 w2 h hb => hst _ _ _ _ h hb, fun k hk hne g w1 w2 h hb => ?_, fun ph g g' w1 he h => ?_, fun ph g w' hb hph _ hout hd => ?_⟩
  · rcases (show k = 0 ∨ k = 1 by omega) with rfl | rfl
    · exact absurd rfl hne
    · exact hst2 _ _ _ h hb
  · show p ph (g' d) w1
    rw [← he b1 o d (Anc.self b1) hi ho]
    exact h
  · obtain rfl := hph rfl
    have h1 := h g w' hb hout hd
    have e1 : stepN b1 b2 b1 0 = 1 := if_pos rfl
    have e : ∀ v, updO g (some d) v d = v := fun v => by unfold updO upd; simp
    rw [ho, e1]
    refine OpRel.mono (fun v w'' h => ⟨?_, .inr (.inl ⟨rfl, h.2⟩)⟩) h1
    show p 1 (updO g (some d) v d) w''
    rw [e]
    exact h.1
/-- The second operation that writes, a store. -/
theorem OpD.second {o : Oper} {p : (Nat → Value) → World → Prop} (hb12 : b1 ≠ b2) (ho : o.dst = none) (hst : ∀ g w1 w2, p g w1 → Below w1.heap.size w1 w2 → p g w2)
    (hsup : ∀ g g' w, (∀ j o d, Anc l j b2 → l[j]? = some o → o.dst = some d → g d = g' d) → p g w → p g' w)
    (h : ∀ g w', T 1 w' → (∀ d, ((l.take n).filterMap (·.dst)).contains d = false → g d = a.tmps.getD d undef) → Deps n (atP Rs 1) g w' o → OpRel P o (evL g) w' fun _ w'' => p g w'' ∧ Eb 1 w' w'') :
    OpD P l n Rs a T Eb b1 b2 b2 o (fun ph g w => ph = 2 ∧ p g w) := by
  refine ⟨fun ph g w1 w2 h hb => ⟨h.1, hst _ _ _ h.2 hb⟩, fun k hk hne g w1 w2 h hb => ?_, fun ph g g' w1 he h => ⟨h.1, hsup g g' w1 he h.2⟩, fun ph g w' hb _ hph hout hd => ?_⟩
  · exact absurd h.1 (by omega)
  · obtain rfl := hph rfl
    have h1 := h g w' hb hout hd
    have e1 : stepN b1 b2 b2 1 = 2 := by unfold stepN; rw [if_neg (fun e => hb12 e.symm), if_pos rfl]
    rw [ho, e1]
    exact OpRel.mono (fun v w'' h => ⟨⟨rfl, h.1⟩, .inr (.inr ⟨rfl, h.2⟩)⟩) h1
end
end
end Wh
namespace Wh
open Go Go.RowKit Go.Shelf Go.Proofs
attribute [local go_sem] run_indexAt_letter evL_tmp evL_const evL_func

theorem drop_zero {l : List Hold} {o k b : Int} (hok : holdsOk l = true) (h : keptAt l o k b = 0) : drop l o k b = ([], 0, 4) := by
  unfold drop
  rw [hok, if_neg (by simp), if_pos h]
end Wh
namespace Wh
open Go Go.RowKit Go.Shelf Go.Proofs
attribute [local go_sem] run_indexAt_letter evL_tmp evL_const evL_func

theorem Own.at_block {α : Type} {enc : α → List Value} {size : Nat} {e : TypeId} {w : World} {base g : Nat} {cs : Array Value} {l : List α} (hb : base ≤ g) (hg : w.heap[g]? = some (.cells cs e)) (hc : cs.toList = l.flatMap enc)
    (hk : ∀ x, (enc x).length = size) (hl : l.length ≤ 1000000) : Own enc size e w base (.slice (some ⟨g, 0, none⟩) l.length l.length) l := by
  refine ⟨by rw [flat_length enc size hk], .inr ⟨g, l.length, cs, rfl, hb, hg, Nat.le_refl _, by unfold maxLen; omega, ?_, ?_⟩⟩
  · rw [← Array.length_toList, hc, flat_length enc size hk]
  · rw [hc, ← flat_length enc size hk, List.take_length]

def busyS : State := ⟨[[9, 0], [3, 0], [0, 6]], [⟨1, [⟨0, 6, 1, 0⟩, ⟨1, 9, 0, 3⟩]⟩, ⟨0, [⟨0, 4, 0, 0⟩]⟩], [⟨0, 0, 0, 2⟩, ⟨0, 0, 1, 3⟩, ⟨0, 1, 2, 6⟩], [⟨0, 0, 1, 5⟩], [13, 6], [1, 0], [0, 0]⟩
def busyV (n : Nat) : SV :=
  ⟨.slice (some ⟨n + 4, 0, none⟩) 3 3, .slice (some ⟨n + 7, 0, none⟩) 2 2, .slice (some ⟨n + 8, 0, none⟩) 3 3, .slice (some ⟨n + 9, 0, none⟩) 1 1, .slice (some ⟨n + 10, 0, none⟩) 2 2, .slice (some ⟨n + 11, 0, none⟩) 2 2, .slice (some ⟨n + 12, 0, none⟩) 2 2,
   [.slice (some ⟨n + 1, 0, none⟩) 2 2, .slice (some ⟨n + 2, 0, none⟩) 2 2, .slice (some ⟨n + 3, 0, none⟩) 2 2], [.slice (some ⟨n + 5, 0, none⟩) 2 2, .slice (some ⟨n + 6, 0, none⟩) 1 1]⟩
def busyO (n : Nat) : List Obj := [
  .cells (busyV n).cells.toArray 31,
  .cells #[.int .i64 9, .int .i64 0] 3, .cells #[.int .i64 3, .int .i64 0] 3, .cells #[.int .i64 0, .int .i64 6] 3,
  .cells #[.slice (some ⟨n + 1, 0, none⟩) 2 2, .slice (some ⟨n + 2, 0, none⟩) 2 2, .slice (some ⟨n + 3, 0, none⟩) 2 2] 23,
  .cells #[.int .i64 0, .int .i64 6, .int .i64 1, .int .i64 0, .int .i64 1, .int .i64 9, .int .i64 0, .int .i64 3] 44,
  .cells #[.int .i64 0, .int .i64 4, .int .i64 0, .int .i64 0] 44,
  .cells #[.int .i64 1, .slice (some ⟨n + 5, 0, none⟩) 2 2, .int .i64 0, .slice (some ⟨n + 6, 0, none⟩) 1 1] 42,
  .cells #[.int .i64 0, .int .i64 0, .int .i64 0, .int .i64 2, .int .i64 0, .int .i64 0, .int .i64 1, .int .i64 3, .int .i64 0, .int .i64 1, .int .i64 2, .int .i64 6] 46,
  .cells #[.int .i64 0, .int .i64 0, .int .i64 1, .int .i64 5] 48,
  .cells #[.int .i64 13, .int .i64 6] 3, .cells #[.int .i64 1, .int .i64 0] 3, .cells #[.int .i64 0, .int .i64 0] 3]
def lay (w : World) (os : List Obj) : World := { w with heap := w.heap ++ os.toArray }
theorem lay_alloc (w : World) (os : List Obj) (o : Obj) : (lay w os).alloc o = lay w (os ++ [o]) := by
  unfold lay World.alloc
  simp
theorem lay_nil (w : World) : lay w [] = w := by unfold lay; simp
theorem lay_foldl (w : World) (os : List Obj) : lay w os = os.foldl World.alloc w := by
  suffices h : ∀ (os ps : List Obj), lay w (ps ++ os) = os.foldl World.alloc (lay w ps) by
    have := h os []
    rwa [lay_nil] at this
  intro os
  induction os with
  | nil => intro ps; simp
  | cons o os ih =>
    intro ps
    have := ih (ps ++ [o])
    rw [List.foldl_cons, lay_alloc, ← this]
    simp
theorem lay_below (w : World) (os : List Obj) : Below w.heap.size w (lay w os) := below_wld w w.drawn os.toArray
theorem lay_at (w : World) (os : List Obj) (i : Nat) : (lay w os).heap[w.heap.size + i]? = os[i]? := by
  unfold lay
  rw [Array.getElem?_append_right (by omega)]
  simp
theorem busyOwn (w : World) : OwnSt (lay w (busyO w.heap.size)) w.heap.size (busyV w.heap.size) busyS := by
  have H := lay_at w (busyO w.heap.size)
  refine ⟨Own.at_block (by omega) (H 4) rfl (fun _ => rfl) (by simp [busyV]), rfl, fun b hb => ?_, Own.at_block (by omega) (H 7) rfl (fun _ => rfl) (by simp [ords, busyS, busyV]), rfl, fun o ho => ?_, Own.at_block (by omega) (H 8) rfl (fun _ => rfl) (by decide), Own.at_block (by omega) (H 9) rfl (fun _ => rfl) (by decide),
    Own.at_block (by omega) (H 10) rfl (fun _ => rfl) (by decide), Own.at_block (by omega) (H 11) rfl (fun _ => rfl) (by decide), Own.at_block (by omega) (H 12) rfl (fun _ => rfl) (by decide), ?_, ?_⟩
  · match b, hb with
    | 0, _ => exact Own.at_block (l := ([9, 0] : List Int)) (by omega) (H 1) rfl (fun _ => rfl) (by decide)
    | 1, _ => exact Own.at_block (l := ([3, 0] : List Int)) (by omega) (H 2) rfl (fun _ => rfl) (by decide)
    | 2, _ => exact Own.at_block (l := ([0, 6] : List Int)) (by omega) (H 3) rfl (fun _ => rfl) (by decide)
    | b + 3, hb => simp [busyS] at hb; omega
  · match o, ho with
    | 0, _ => exact Own.at_block (l := ([⟨0, 6, 1, 0⟩, ⟨1, 9, 0, 3⟩] : List Line)) (by omega) (H 5) rfl (fun _ => rfl) (by decide)
    | 1, _ => exact Own.at_block (l := ([⟨0, 4, 0, 0⟩] : List Line)) (by omega) (H 6) rfl (fun _ => rfl) (by decide)
    | o + 2, ho => simp [busyS] at ho; omega
  · unfold apartL busyV
    simp [Value.ownBlock]
  · unfold apartL busyV
    simp [Value.ownBlock]

set_option maxHeartbeats 4000000 in
theorem lBusy (w : World) : Calls Tryz.prog 42 #[] w fun e w' => ∃ V, e = .returned V.val ∧ OwnSt w' w.heap.size V busyS ∧ Below w.heap.size w w' := by
  go_enter Tryz.func42, Tryz.ntmps42
  go_wp2_with fail
  have h1 := busyOwn w
  have h2 := lay_below w (busyO w.heap.size)
  rw [lay_foldl] at h1 h2
  refine bodyPost_ret (v := (busyV w.heap.size).val) ?_ rfl ⟨busyV w.heap.size, rfl, h1, h2⟩
  simp [results, Tryz.results42, go_sem, SV.val, busyV]

def small (s : State) : Bool := decide (s.on.length ≤ 1000) && s.on.all (fun r => decide (r.length ≤ 1000)) && decide (s.orders.length ≤ 1000) && s.orders.all (fun o => decide (o.lines.length ≤ 1000)) && decide (s.holds.length ≤ 1000) && decide (s.moves.length ≤ 1000) && decide (s.inn.length ≤ 1000) && decide (s.out.length ≤ 1000) && decide (s.fixed.length ≤ 1000)
/-- It reads as the state, however that is. -/
theorem OwnSt.view0 {w : World} {base : Nat} {V : SV} {s : State} (h : OwnSt w base V s) (hs : small s = true) : StateV w w.heap.size V.val s := by
  unfold small at hs
  simp only [Bool.and_eq_true, decide_eq_true_eq, List.all_eq_true] at hs
  obtain ⟨⟨⟨⟨⟨⟨⟨⟨s1, s2⟩, s3⟩, s4⟩, s5⟩, s6⟩, s7⟩, s8⟩, s9⟩ := hs
  obtain ⟨A, c, hv, _, hA⟩ := h.on.sl (by rw [h.rlen]; omega)
  obtain ⟨A1, c1, hv1, _, hA1⟩ := h.orders.sl (by rw [ords_length h.llen]; omega)
  refine ⟨_, _, _, _, _, _, _, rfl, ⟨A, c, V.rows, by rw [hv, h.rlen], by omega, h.rlen, ?_, fun i x hi => ?_⟩, ⟨A1, c1, V.lines, by rw [hv1, ords_length h.llen], by omega, h.llen, ?_, fun i x hi => ?_⟩, h.holds.sl (by omega), h.moves.sl (by omega), h.inn.sl (by omega), h.out.sl (by omega), h.fixed.sl (by omega)⟩
  · have : V.rows.flatMap (fun u => [u]) = V.rows := by simp
    rw [this] at hA
    exact hA
  · have hil : i < s.on.length := (List.getElem?_eq_some_iff.1 hi).1
    have hx : rowAt s.on i = x := by rw [rowAt_eq hil]; exact (List.getElem?_eq_some_iff.1 hi).2
    have := s2 x (List.mem_of_getElem? hi)
    exact ⟨_, h.rowGet hil, by rw [← hx]; exact (h.row i hil).sl (by rw [hx]; omega)⟩
  · have e : (s.orders.zip V.lines).flatMap (fun x => [Value.int .i64 x.1.kind, x.2]) = (ords s.orders V.lines).flatMap cOrd := by
      unfold ords cOrd
      rw [List.zip_eq_zipWith, List.flatMap_def, List.flatMap_def, List.map_zipWith, List.map_zipWith]
    rw [e]
    exact hA1
  · have hil : i < s.orders.length := (List.getElem?_eq_some_iff.1 hi).1
    have hx : s.order i = x := by unfold State.order; rw [orderAt_eq hil]; exact (List.getElem?_eq_some_iff.1 hi).2
    have := s4 x (List.mem_of_getElem? hi)
    exact ⟨_, h.lineGet hil, by rw [← hx]; exact (h.line i hil).sl (by rw [hx]; omega)⟩
end Wh
namespace Wh
open Go Go.RowKit Go.Shelf Go.Proofs
attribute [local go_sem] run_indexAt_letter evL_tmp evL_const evL_func

section
variable {p : Plan} {s : State} {b g n e : Int} (w : World) (v vs : Value) (hp : PlanV w w.heap.size v p) (hv : StateV w w.heap.size vs s)
include hp hv
theorem sAvailAt (h : availE p s b g = (n, e)) : Calls Tryz.prog 24 #[v, vs, .int .i64 b, .int .i64 g] w fun x w' => x = .returned (.tuple #[.int .i64 n, .int .i64 e]) ∧ Below w.heap.size w w' := by
  have := sAvail w v vs p s b g hp hv
  rwa [h] at this
theorem sCheckAt (h : checkState p s = e) : Calls Tryz.prog 23 #[v, vs] w fun x w' => x = .returned (.int .i64 e) ∧ Below w.heap.size w w' := by
  have := sCheck w v vs p s hp hv
  rwa [h] at this
end
section
variable {p : Plan} {on : List (List Int)} {b g e : Int} (w : World) (v vo : Value) (hp : PlanV w w.heap.size v p) (ho : SlSl cInt w w.heap.size vo on)
include hp ho
end
end Wh
namespace Wh
open Go Go.RowKit Go.Shelf Go.Proofs
attribute [local go_sem] run_indexAt_letter evL_tmp evL_const evL_func

theorem sane_small {p : Plan} {s : State} (h : Sane p s) : small s = true := by
  have hc := h.counts
  have h4 := h.orders4
  have h8 := h.moves8
  have h72 := ok_len72 h.holds
  unfold small
  simp only [Bool.and_eq_true, decide_eq_true_eq, List.all_eq_true]
  refine ⟨⟨⟨⟨⟨⟨⟨⟨?_, fun r hr => ?_⟩, ?_⟩, fun o ho => ?_⟩, ?_⟩, ?_⟩, ?_⟩, ?_⟩, ?_⟩
  · rw [h.onLen]; omega
  · obtain ⟨i, hi, rfl⟩ := List.getElem_of_mem hr
    have h1 := h.rowLen (b := i) (by rw [← h.onLen]; exact hi)
    rw [rowAt_eq hi] at h1
    omega
  · omega
  · obtain ⟨i, hi, rfl⟩ := List.getElem_of_mem ho
    have h1 := h.lines3 hi
    unfold State.order at h1
    rw [orderAt_eq hi] at h1
    omega
  · omega
  · omega
  · rw [h.inn.1]; omega
  · rw [h.out.1]; omega
  · rw [h.fixed.1]; omega
theorem check_small {p : Plan} {s : State} (h : checkState p s = 0) : small s = true := sane_small (checkState_zero.1 h).1
theorem ActPost.at {r : State × Int} {c : Int} (hc : r.2 = c) {w : World} {e : Ending} {w' : World} (h : ActPost r w e w') : ∃ V, e = .returned (.tuple #[V.val, .int .i64 c]) ∧ OwnSt w' w.heap.size V r.1 ∧ Below w.heap.size w w' := by rw [← hc]; exact h
end Wh
namespace Wh
open Go Go.RowKit Go.Shelf Go.Proofs
attribute [local go_sem] run_indexAt_letter evL_tmp evL_const evL_func

theorem At.tail {w : World} {B g o : Nat} {xs ys : List Value} (h : At w B (some ⟨g, o, none⟩) (xs ++ ys)) : At w B (some ⟨g, o + xs.length, none⟩) ys := by
  intro hn
  obtain ⟨h1, h2, h3⟩ := h (by simp [hn])
  refine ⟨⟨g, _, rfl⟩, h2, fun j v hj => ?_⟩
  have := h3 (xs.length + j) v (by rw [List.getElem?_append_right (by omega), Nat.add_sub_cancel_left]; exact hj)
  rw [← Nat.add_assoc] at this
  exact this
end Wh
namespace Wh
open Go Go.RowKit Go.Shelf Go.Proofs
attribute [local go_sem] run_indexAt_letter evL_tmp evL_const evL_func

theorem count_small (p : Plan) (s : State) (b g n : Int) : small (count p s b g n).1 = true := by
  by_cases h : (count p s b g n).2 = 0
  · obtain ⟨hc, i, j, rfl, rfl, f, e⟩ := count_right h
    rw [e]
    exact check_small (count_check hc f)
  · have : (count p s b g n).1 = dState := by
      unfold count at h ⊢
      split
      · rfl
      rename_i h1
      rw [if_neg h1] at h
      split
      · rfl
      rename_i h2
      rw [if_neg h2] at h
      split
      · rfl
      rename_i h3
      rw [if_neg h3] at h
      exact absurd rfl h
    rw [this]
    decide

theorem pair_zero {r : State × Int} (h : r.2 = 0) : r = (r.1, 0) := Prod.ext rfl h
def ctA : State := (count yardP busyS 0 0 1).1
def ctB : State := (count yardP busyS 2 1 9).1
theorem begC1 : count yardP busyS 0 0 1 = (ctA, 0) := pair_zero (r := count yardP busyS 0 0 1) (by decide +kernel)
theorem begC2 : count yardP busyS 2 1 9 = (ctB, 0) := pair_zero (r := count yardP busyS 2 1 9) (by decide +kernel)
theorem begC3 : count yardP busyS 3 0 1 = (dState, 3) := by decide +kernel
theorem begCt {b g n : Int} {r : State × Int} (h : count yardP busyS b g n = r) (w : World) (v vs : Value) (hp : PlanV w w.heap.size v yardP) (hv : StateV w w.heap.size vs busyS) :
    Calls Tryz.prog 20 #[v, vs, .int .i64 b, .int .i64 g, .int .i64 n] w (ActPost r w) := by
  rw [← h]
  exact ctCount w v vs yardP busyS b g n hp hv
theorem ctA_on : ctA.on.length = 3 := by decide +kernel
theorem ctA_row : (rowAt ctA.on 0).length = 2 := by decide +kernel
theorem ctA_cell : cell ctA.on 0 0 = 1 := by decide +kernel
theorem ctA_fixed : ctA.fixed.length = 2 := by decide +kernel
theorem ctA_fixed0 : intAt ctA.fixed 0 = -8 := by decide +kernel
theorem ctA_moves : ctA.moves.length = 0 := by decide +kernel
theorem ctA_holds : ctA.holds.length = 3 := by decide +kernel
theorem ctA_hold : (hold ctA.holds 0).n = 1 := by decide +kernel
theorem ctA_orders : ctA.orders.length = 2 := by decide +kernel
theorem ctA_lines : (ctA.order 0).lines.length = 2 := by decide +kernel
theorem ctA_line : ctA.line 0 0 = ⟨0, 6, 1, 1⟩ := by decide +kernel
theorem ctB_on : ctB.on.length = 3 := by decide +kernel
theorem ctB_row : (rowAt ctB.on 2).length = 2 := by decide +kernel
theorem ctB_cell : cell ctB.on 2 1 = 9 := by decide +kernel
theorem ctB_fixed : ctB.fixed.length = 2 := by decide +kernel
theorem ctB_fixed1 : intAt ctB.fixed 1 = 3 := by decide +kernel
theorem ctB_orders : ctB.orders.length = 2 := by decide +kernel
theorem ctB_lines : (ctB.order 0).lines.length = 2 := by decide +kernel
theorem ctB_line : ctB.line 0 1 = ⟨1, 9, 0, 3⟩ := by decide +kernel

set_option maxHeartbeats 4000000 in
set_option maxRecDepth 100000 in
theorem countBegun (w : World) : Calls Tryz.prog 22 #[] w fun e w' => e = .returned (.bool true) ∧ Below w.heap.size w w' := by
  go_enter Tryz.func22, Tryz.ntmps22
  go_wp2_with fail
  refine (lYard _).mono ?_
  rintro e W1 ⟨u1, rfl, hu1, hb1⟩
  go_wp2_with fail
  refine (lBusy _).mono ?_
  rintro e W2 ⟨V2, rfl, ho2, hb2⟩
  go_wp2_with fail
  refine (begCt begC1 W2 _ _ (hu1.grow hb2) (ho2.view0 (by decide))).mono ?_
  rintro e W3 ⟨V3, rfl, ho3, hb3⟩
  have hone4 := (ho3).one
  have hnb4 := newBox (W3)
  go_wp2_with (refine wpList_store_state rfl (.tmp 1) (.tmp 11) rfl rfl (World.heap (W3)).size nilSV V3 hnb4 rfl rfl hone4 (fun w4 hbox4 hg4 => ?_); refine Hid.out ?_)
  unfold Hid
  have hbb4 := newBelow hg4
  have hbl4 := hbox4.lt
  clear hone4 hnb4 hg4
  have ha4 := hb1.trans ((hb2.trans ((hb3.trans (hbb4.mono hb3.size)).mono hb2.size)).mono hb1.size)
  have ho4 := Lib.hid (ho3.below hbb4)
  have hbox4' := Lib.hid hbox4
  clear ho3 hbox4 hbb4 hb3 hb2 hb1 hu1 ho2
  go_wp2_with fail
  refine (lYard _).mono ?_
  rintro e W5 ⟨u5, rfl, hu5, hb5⟩
  go_wp2_with fail
  refine (lBusy _).mono ?_
  rintro e W6 ⟨V6, rfl, ho6, hb6⟩
  go_wp2_with fail
  refine (begCt begC2 W6 _ _ (hu5.grow hb6) (ho6.view0 (by decide))).mono ?_
  rintro e W7 ⟨V7, rfl, ho7, hb7⟩
  have hone8 := (ho7).one
  have hnb8 := newBox (W7)
  go_wp2_with (refine wpList_store_state rfl (.tmp 3) (.tmp 17) rfl rfl (World.heap (W7)).size nilSV V7 hnb8 rfl rfl hone8 (fun w8 hbox8 hg8 => ?_); refine Hid.out ?_)
  unfold Hid
  have hbb8 := newBelow hg8
  have hbl8 := hbox8.lt
  clear hone8 hnb8 hg8
  have ha8 := hb5.trans ((hb6.trans ((hb7.trans (hbb8.mono hb7.size)).mono hb6.size)).mono hb5.size)
  have ho8 := Lib.hid (ho7.below hbb8)
  have hbox8' := Lib.hid hbox8
  clear ho7 hbox8 hbb8 hb7 hb6 hb5 hu5 ho6
  go_wp2_with fail
  refine (lYard _).mono ?_
  rintro e W9 ⟨u9, rfl, hu9, hb9⟩
  go_wp2_with fail
  refine (lBusy _).mono ?_
  rintro e W10 ⟨V10, rfl, ho10, hb10⟩
  go_wp2_with fail
  refine (begCt begC3 W10 _ _ (hu9.grow hb10) (ho10.view0 (by decide))).mono ?_
  rintro e W11 ⟨V11, rfl, ho11, hb11⟩
  have hone12 := (ho11).one
  have hnb12 := newBox (W11)
  go_wp2_with (refine wpList_store_state rfl (.tmp 5) (.tmp 23) rfl rfl (World.heap (W11)).size nilSV V11 hnb12 rfl rfl hone12 (fun w12 hbox12 hg12 => ?_); refine Hid.out ?_)
  unfold Hid
  have hbb12 := newBelow hg12
  have hbl12 := hbox12.lt
  clear hone12 hnb12 hg12
  have ha12 := hb9.trans ((hb10.trans ((hb11.trans (hbb12.mono hb11.size)).mono hb10.size)).mono hb9.size)
  have ho12 := Lib.hid (ho11.below hbb12)
  have hbox12' := Lib.hid hbox12
  clear ho11 hbox12 hbb12 hb11 hb10 hb9 hu9 ho10
  have h8z := ha8.trans (ha12.mono ha8.size)
  have hB := ha4.trans (h8z.mono ha4.size)
  have hA := ho4.out.below h8z
  have hBs := ho8.out.below ha12
  have hbA := hbox4'.out.below h8z hbl4
  have hbB := hbox8'.out.below ha12 hbl8
  clear ho4 ho8 ho12 hbox4' hbox8' hbox12' ha12 ha8 ha4 h8z
  obtain ⟨pA0, pA1, pA2, pA3, _, _, pA6⟩ := hbA.cells
  obtain ⟨pB0, pB1, _, _, _, _, pB6⟩ := hbB.cells
  obtain ⟨gon, con, cur0, gr, cr, cur, eon, _, _, r0, _, _, _, rc⟩ := hA.onAt (b := 0) (g := 0) (by rw [ctA_on]; decide) (by rw [ctA_row]; decide)
  rw [ctA_on] at eon
  rw [ctA_row] at r0
  rw [ctA_cell] at rc
  rw [eon] at pA0
  obtain ⟨gu, cu, curu, eu, _, _, ru⟩ := OwnSt.intAtOwn hA.fixed (g := 0) (by rw [ctA_fixed]; decide)
  rw [ctA_fixed] at eu
  rw [ctA_fixed0] at ru
  rw [eu] at pA6
  obtain ⟨Am, cm, vm⟩ := hA.moves.isSlice
  rw [ctA_moves] at vm
  rw [vm] at pA3
  obtain ⟨go, co, curo, vO, hgo, blko, kO, kL⟩ := hA.orderAt (o := 0) (by rw [ctA_orders]; decide)
  obtain ⟨gl, cl, curl, vL, hgl, blkl, kl0, kl1, kl2, kl3⟩ := hA.lineAt (o := 0) (k := 0) (by rw [ctA_orders]; decide) (by rw [ctA_lines]; decide)
  rw [ctA_orders] at vO
  rw [ctA_lines] at vL
  rw [vO] at pA1
  rw [vL] at kL
  rw [ctA_line] at kl3
  have kL : w12.cell? ⟨go, 1, none⟩ = some (.slice (some ⟨gl, 0, none⟩) 2 cl) := kL
  have kl3 : w12.cell? ⟨gl, 3, none⟩ = some (.int .i64 1) := kl3
  obtain ⟨gh, ch, curh, vH, _, _, hcell⟩ := hA.holds.at (fun _ => rfl) (show 0 < ctA.holds.length by rw [ctA_holds]; decide)
  rw [← hold_get] at hcell
  rw [ctA_holds] at vH
  rw [vH] at pA2
  have m3 : w12.cell? ⟨gh, 3, none⟩ = some (.int .i64 1) := by
    have := hcell 3 (.int .i64 (hold ctA.holds 0).n) rfl
    rw [ctA_hold] at this
    exact this
  obtain ⟨gon', con', cur0', gr', cr', cur', eon', _, _, r0', _, _, _, rc'⟩ := hBs.onAt (b := 2) (g := 1) (by rw [ctB_on]; decide) (by rw [ctB_row]; decide)
  rw [ctB_on] at eon'
  rw [ctB_row] at r0'
  rw [ctB_cell] at rc'
  rw [eon'] at pB0
  obtain ⟨gu', cu', curu', eu', _, _, ru'⟩ := OwnSt.intAtOwn hBs.fixed (g := 1) (by rw [ctB_fixed]; decide)
  rw [ctB_fixed] at eu'
  rw [ctB_fixed1] at ru'
  rw [eu'] at pB6
  obtain ⟨go', co', curo', vO', hgo', blko', kO', kL'⟩ := hBs.orderAt (o := 0) (by rw [ctB_orders]; decide)
  obtain ⟨gl', cl', curl', vL', hgl', blkl', kl0', kl1', kl2', kl3'⟩ := hBs.lineAt (o := 0) (k := 1) (by rw [ctB_orders]; decide) (by rw [ctB_lines]; decide)
  rw [ctB_orders] at vO'
  rw [ctB_lines] at vL'
  rw [vO'] at pB1
  rw [vL'] at kL'
  rw [ctB_line] at kl3'
  have kL' : w12.cell? ⟨go', 1, none⟩ = some (.slice (some ⟨gl', 0, none⟩) 2 cl') := kL'
  have kl3' : w12.cell? ⟨gl', 7, none⟩ = some (.int .i64 3) := kl3'
  clear hcell vH vO vL vm vO' vL' eon eon' eu eu' hA hBs hbA hbB blko blkl blko' blkl' hgo hgl hgo' hgl' kO kO' kl0 kl1 kl2 kl0' kl1' kl2'
  go_wp2_with fail
  go_ret
  exact ⟨rfl, hB⟩
end Wh
namespace Wh
open Go Go.RowKit Go.Shelf Go.Proofs
attribute [local go_sem] run_indexAt_letter evL_tmp evL_const evL_func

theorem OwnSt.onCells {w : World} {base : Nat} {V : SV} {s : State} (h : OwnSt w base V s) {b g : Nat} (hb : b < s.on.length) (hg : g < (rowAt s.on b).length) {gon n c : Nat} (hv : V.on = .slice (some ⟨gon, 0, none⟩) n c) :
    ∃ gr cr, gon < w.heap.size ∧ gr < w.heap.size ∧ w.cell? ⟨gon, b, none⟩ = some (.slice (some ⟨gr, 0, none⟩) (rowAt s.on b).length cr) ∧ w.cell? ⟨gr, g, none⟩ = some (.int .i64 (cell s.on b g)) := by
  obtain ⟨go, co, cur0, gr, cr, cur, e0, _, h0, r0, _, _, h1, rc⟩ := h.onAt hb hg
  rw [hv] at e0
  injection e0 with e0
  injection e0 with e0
  injection e0 with e0
  subst e0
  exact ⟨gr, cr, h0.lt, h1.lt, r0, rc⟩
theorem Filled.on {p : Plan} {s t : State} (h : Filled p s t) : t.on = s.on := by rw [h.rest]

end Wh
