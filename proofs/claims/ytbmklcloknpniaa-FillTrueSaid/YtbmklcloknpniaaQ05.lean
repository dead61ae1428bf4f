/- Texts of the claim, joined: Rel, OwnT. -/
import Derived.StillTail
import Derived.Laws.Tables
import Derived.Test.YtbmklcloknpniaaQ01
import Derived.Test.YtbmklcloknpniaaQ04
namespace Wh
open Go Go.RowKit

def fillT (t : Array Value) (ds : List Nat) (f : Nat → Value) : Array Value := ds.foldl (fun t d => t.setIfInBounds d (f d)) t
/-- The frame, the region's slots filled. -/
def fillA (a : Act) (l : List Oper) (f : Nat → Value) : Act := { a with tmps := fillT a.tmps (l.filterMap (·.dst)) f }
def upd (f : Nat → Value) (d : Nat) (v : Value) (k : Nat) : Value := if k = d then v else f k
theorem fillT_get (ds : List Nat) (f : Nat → Value) : ∀ (t : Array Value) (k : Nat), (fillT t ds f)[k]? = if k < t.size then (if k ∈ ds then some (f k) else t[k]?) else none := by
  induction ds with
  | nil =>
    intro t k
    show t[k]? = _
    by_cases h : k < t.size
    · simp [h]
    · simp [h]
  | cons d ds ih =>
    intro t k
    show (fillT (t.setIfInBounds d (f d)) ds f)[k]? = _
    rw [ih, Array.size_setIfInBounds, Array.getElem?_setIfInBounds]
    by_cases h : k < t.size
    · by_cases hk : k ∈ ds
      · simp [h, hk]
      · by_cases hd : d = k
        · subst hd; simp [h, hk]
        · have hd' : ¬ k = d := fun e => hd e.symm
          simp [h, hk, hd, hd']
    · simp [h]
theorem fillT_put {t : Array Value} {ds : List Nat} {f : Nat → Value} {d : Nat} (hd : d ∈ ds) (v : Value) : (fillT t ds f).setIfInBounds d v = fillT t ds (upd f d v) := by
  apply Array.ext_getElem?
  intro k
  rw [Array.getElem?_setIfInBounds, fillT_get, fillT_get]
  have hs : (fillT t ds f).size = t.size := by
    unfold fillT
    induction ds generalizing t with
    | nil => rfl
    | cons e ds ih =>
      by_cases h : d ∈ ds
      · rw [List.foldl_cons, ih h, Array.size_setIfInBounds]
      · have aux : ∀ (ds : List Nat) (t : Array Value), (ds.foldl (fun t d => t.setIfInBounds d (f d)) t).size = t.size := by
          intro ds
          induction ds with
          | nil => intro t; rfl
          | cons x xs ihx => intro t; rw [List.foldl_cons, ihx, Array.size_setIfInBounds]
        exact aux _ _
  rw [hs]
  unfold upd
  by_cases h : k < t.size
  · by_cases hk : d = k
    · subst hk; simp [h, hd]
    · have hk' : ¬ k = d := fun e => hk e.symm
      simp [h, hk, hk']
  · by_cases hk : d = k
    · subst hk; simp [h]
    · simp [h, hk]
theorem fillT_self (t : Array Value) (ds : List Nat) : fillT t ds (fun d => t.getD d undef) = t := by
  apply Array.ext_getElem?
  intro k
  rw [fillT_get]
  by_cases h : k < t.size
  · by_cases hk : k ∈ ds <;> simp [h, hk, Array.getD]
  · simp [h]

/-- Operation j, or one that i waits for, however far back. -/
inductive Anc (l : List Oper) : Nat → Nat → Prop
  | self (i : Nat) : Anc l i i
  | back {j k i : Nat} {o : Oper} {e : Edge} : l[i]? = some o → e ∈ o.after → Region.binds .any e = true → e.on = k → Anc l j k → Anc l j i
def updO (f : Nat → Value) (d : Option Nat) (v : Value) : Nat → Value := match d with | some d => upd f d v | none => f
/-- What the operations say that this one waits for. -/
def Deps (n : Nat) (R : Nat → (Nat → Value) → World → Prop) (f : Nat → Value) (w : World) (o : Oper) : Prop :=
  ∀ e ∈ o.after, Region.binds .any e = true → e.on < n → R e.on f w
/-- What is to be shown of one operation. -/
def StepRel (P : Program) (l : List Oper) (n : Nat) (R : Nat → (Nat → Value) → World → Prop) (Q : Exit → Act → World → Prop) (a : Act) (w : World) (i : Nat) (o : Oper) : Prop :=
  ∀ f w', Below w.heap.size w w' → Deps n R f w' o → o.wp P (fillA a (l.take n) f) w' (fun a' w'' => ∃ v, a' = (fillA a (l.take n) f).put o.dst v ∧ R i (updO f o.dst v) w'' ∧ Below w'.heap.size w' w'') Q
def StepsRel (P : Program) (l : List Oper) (n : Nat) (R : Nat → (Nat → Value) → World → Prop) (Q : Exit → Act → World → Prop) (a : Act) (w : World) : Nat → List Oper → Prop
  | _, [] => True
  | i, o :: r => StepRel P l n R Q a w i o ∧ StepsRel P l n R Q a w (i + 1) r
theorem StepsRel.at {P : Program} {l : List Oper} {n : Nat} {R : Nat → (Nat → Value) → World → Prop} {Q : Exit → Act → World → Prop} {a : Act} {w : World} : ∀ {r : List Oper} {k : Nat}, StepsRel P l n R Q a w k r → ∀ {j : Nat} {o : Oper}, r[j]? = some o → StepRel P l n R Q a w (k + j) o
  | [], _, _, _, _, h => by simp at h
  | x :: r, k, h, 0, o, hj => by
    simp at hj
    subst hj
    exact h.1
  | x :: r, k, h, j + 1, o, hj => by
    have := StepsRel.at h.2 (j := j) (o := o) (by simpa using hj)
    rwa [show k + 1 + j = k + (j + 1) by omega] at this

def heads (m n : Nat) : Array Bool := Array.replicate n true ++ Array.replicate (m - n) false
/-- The first n operations hang on earlier ones alone, wait for no guard, write each a slot of its own; the rest come behind them in a row. -/
def relB (l : List Oper) (n : Nat) : Bool :=
  (decide (n = l.length) || (decide (n < l.length) && Region.sinkB .any l.toArray n && Region.chainB .any l.toArray n)) && Region.seqB .any l.toArray (l.length - n) n (heads l.length n) &&
  (l.take n).all (fun o => o.guard.isNone) && decide ((l.take n).filterMap (·.dst)).Nodup && (List.range n).all fun i => ((l[i]?).map fun o => o.after.all fun e => !Region.binds .any e || decide (e.on < i)).getD true

def unl (listed : Array Bool) (n : Nat) : Nat := (List.range n).countP fun i => !listed.getD i true
theorem getD_set_self {listed : Array Bool} {i : Nat} (d : Bool) (hs : i < listed.size) : (listed.setIfInBounds i true).getD i d = true := by simp [Array.getD, hs]
theorem lt_of_unl {listed : Array Bool} {i : Nat} (hi : listed.getD i true = false) : i < listed.size := by
  rcases Nat.lt_or_ge i listed.size with h | h
  · exact h
  · simp [Array.getElem?_eq_none h] at hi
theorem unl_set {listed : Array Bool} {i : Nat} (hi : listed.getD i true = false) : ∀ n, unl (listed.setIfInBounds i true) n + (if i < n then 1 else 0) = unl listed n := by
  have hs := lt_of_unl hi
  intro n
  induction n with
  | zero => simp [unl]
  | succ n ih =>
    unfold unl at ih ⊢
    rw [List.range_succ, List.countP_append, List.countP_append]
    by_cases h : i = n
    · subst h
      rw [if_neg (by omega)] at ih
      rw [if_pos (by omega)]
      simp only [List.countP_singleton, hi, getD_set_self true hs, Bool.not_true, Bool.not_false, Bool.false_eq_true, if_true, if_false]
      omega
    · have e : (List.countP (fun j => !(listed.setIfInBounds i true).getD j true) [n]) = List.countP (fun j => !listed.getD j true) [n] := by
        simp only [List.countP_singleton, getD_set_ne true h]
      rw [e]
      by_cases hlt : i < n
      · rw [if_pos hlt] at ih
        rw [if_pos (by omega)]
        omega
      · rw [if_neg hlt] at ih
        rw [if_neg (by omega)]
        omega
theorem unl_zero {listed : Array Bool} {n : Nat} (h : unl listed n = 0) {i : Nat} (hi : i < n) : listed.getD i true = true := by
  unfold unl at h
  rw [List.countP_eq_zero] at h
  have := h i (List.mem_range.2 hi)
  simpa using this
theorem unl_pos {listed : Array Bool} {n : Nat} (h : 0 < unl listed n) : ∃ i, i < n ∧ listed.getD i true = false := by
  unfold unl at h
  rw [List.countP_pos_iff] at h
  obtain ⟨i, hi, hp⟩ := h
  exact ⟨i, List.mem_range.1 hi, by simpa using hp⟩

section
variable {P : Program} {l : List Oper} {n : Nat} {R : Nat → (Nat → Value) → World → Prop} {Q : Exit → Act → World → Prop} {a : Act} {w : World}

theorem dst_mem {i d : Nat} {o : Oper} (hi : l[i]? = some o) (hin : i < n) (hd : o.dst = some d) : d ∈ (l.take n).filterMap (·.dst) := by
  rw [List.mem_filterMap]
  refine ⟨o, ?_, hd⟩
  rw [List.mem_iff_getElem?]
  exact ⟨i, by rw [List.getElem?_take]; simp [hin, hi]⟩
theorem dst_ne {i j d d' : Nat} {o o' : Oper} (hn : ((l.take n).filterMap (·.dst)).Nodup) (hi : l[i]? = some o) (hin : i < n) (hd : o.dst = some d) (hj : l[j]? = some o') (hjn : j < n) (hd' : o'.dst = some d') (hne : i ≠ j) : d ≠ d' := by
  intro e
  subst e
  have key : ∀ (l : List Oper), (l.filterMap (·.dst)).Nodup → ∀ (i j : Nat) (o o' : Oper), l[i]? = some o → l[j]? = some o' → o.dst = some d → o'.dst = some d → i < j → False := by
    intro l
    induction l with
    | nil => intro _ i j o o' h; simp at h
    | cons x l ih =>
      intro hn i j o o' hi hj hd hd' hlt
      have hnl : (l.filterMap (·.dst)).Nodup := by
        cases hx : x.dst with
        | none => rw [List.filterMap_cons_none hx] at hn; exact hn
        | some y => rw [List.filterMap_cons_some hx] at hn; exact (List.nodup_cons.1 hn).2
      cases i with
      | zero =>
        simp at hi
        subst hi
        rw [List.filterMap_cons_some hd] at hn
        obtain ⟨j, rfl⟩ : ∃ k, j = k + 1 := ⟨j - 1, by omega⟩
        refine (List.nodup_cons.1 hn).1 ?_
        rw [List.mem_filterMap]
        exact ⟨o', List.mem_of_getElem? (by simpa using hj), hd'⟩
      | succ i =>
        obtain ⟨j, rfl⟩ : ∃ k, j = k + 1 := ⟨j - 1, by omega⟩
        exact ih hnl i j o o' (by simpa using hi) (by simpa using hj) hd hd' (by omega)
  have hi' : (l.take n)[i]? = some o := by rw [List.getElem?_take]; simp [hin, hi]
  have hj' : (l.take n)[j]? = some o' := by rw [List.getElem?_take]; simp [hjn, hj]
  rcases Nat.lt_or_gt_of_ne hne with h | h
  · exact key _ hn i j o o' hi' hj' hd hd' h
  · exact key _ hn j i o' o hj' hi' hd' hd h

theorem rel_run (hle : n ≤ l.length) (hwait : ∀ listed, HeadInv .any l.toArray n listed → ∀ i, i < n → listed.getD i true = false → ∀ t, n ≤ t → t ∉ Region.ready .any l.toArray listed) (hseq : Region.seqB .any l.toArray (l.length - n) n (heads l.length n) = true)
    (hg : ∀ i o, i < n → l[i]? = some o → o.guard = none) (hnd : ((l.take n).filterMap (·.dst)).Nodup) (hback : ∀ i o, i < n → l[i]? = some o → ∀ e ∈ o.after, Region.binds .any e = true → e.on < i)
    (hst : ∀ i g w1 w2, R i g w1 → Below w1.heap.size w1 w2 → R i g w2) (hsup : ∀ i g g' w, (∀ j o d, Anc l j i → l[j]? = some o → o.dst = some d → g d = g' d) → R i g w → R i g' w) (hsteps : StepsRel P l n R Q a w 0 (l.take n))
    (hend : ∀ f w', Below w.heap.size w w' → (∀ i, i < n → R i f w') → wpList P l.toArray Q (l.drop n) (fillA a (l.take n) f) w') :
    ∀ (k : Nat) (listed : Array Bool) (f : Nat → Value) (w' : World), HeadInv .any l.toArray n listed → unl listed n = k → Below w.heap.size w w' → (∀ i, i < n → listed.getD i false = true → R i f w') →
      wpAny P .any l.toArray Q (k + (l.length - n)) listed (fillA a (l.take n) f) w'
  | 0, listed, f, w', inv, hk, hb, hR => by
    have hsz : listed.size = l.length := by rw [inv.size]; simp
    have he : listed = heads l.length n := by
      apply Array.ext_getElem?
      intro i
      unfold heads
      rw [Array.getElem?_append]
      simp only [Array.size_replicate]
      by_cases hi : i < n
      · rw [if_pos hi]
        have h1 := unl_zero hk hi
        have h2 : i < listed.size := by omega
        simp [hi, h2, Array.getD] at h1 ⊢
        exact h1
      · rw [if_neg hi]
        by_cases hl : i < l.length
        · have h1 := inv.tail i (by omega) (by simpa using hl)
          have h2 : i < listed.size := by omega
          have h3 : i - n < l.length - n := by omega
          simp [h2, h3, Array.getD] at h1 ⊢
          exact h1
        · rw [Array.getElem?_eq_none (by omega), Array.getElem?_eq_none (by simp; omega)]
    have hd : l.length - n = (l.drop n).length := by simp
    rw [Nat.zero_add, hd]
    refine wpAny_of_seq (l.drop n) n listed _ w' (fun j => by simp [List.getElem?_drop]) (by rw [he, ← hd]; exact hseq) (hend f w' hb fun i hin => hR i hin ?_)
    have h1 := unl_zero hk hin
    have h2 : i < listed.size := by omega
    simp [h2, Array.getD] at h1 ⊢
    exact h1
  | k + 1, listed, f, w', inv, hk, hb, hR => by
    have hsz : listed.size = l.length := by rw [inv.size]; simp
    obtain ⟨i0, hi0, hu0⟩ := unl_pos (show 0 < unl listed n by omega)
    have hne : ∀ i, i < n → listed.getD i true = false → Region.ready .any l.toArray listed ≠ [] := by
      intro i
      induction i using Nat.strongRecOn with
      | _ i ih =>
        intro hin hu
        have hil : i < l.length := by omega
        by_cases hall : ∀ e ∈ (l[i]).after, Region.binds .any e = true → listed.getD e.on false = true
        · have : i ∈ Region.ready .any l.toArray listed := mem_ready.2 ⟨hu, l[i], by simp [hil], hall⟩
          intro h0
          rw [h0] at this
          cases this
        · simp only [Classical.not_forall] at hall
          obtain ⟨e, he, hbd, hno⟩ := hall
          have hlt := hback i l[i] hin (by simp [hil]) e he hbd
          exact ih e.on hlt (by omega) (getD_in (by omega) (by simpa using hno))
    rw [show k + 1 + (l.length - n) = (k + (l.length - n)) + 1 by omega]
    refine ⟨fun h0 => absurd h0 (hne i0 hi0 hu0), fun i hi => ?_⟩
    have hin : i < n := by
      rcases Nat.lt_or_ge i n with h | h
      · exact h
      · exact absurd hi (hwait listed inv i0 hi0 hu0 i h)
    obtain ⟨hu, o, ho, hall⟩ := mem_ready.1 hi
    have ho' : l[i]? = some o := by simpa using ho
    have hgd := hg i o hin ho'
    have hstep := hsteps.at (j := i) (o := o) (by rw [List.getElem?_take]; simp [hin, ho'])
    rw [Nat.zero_add] at hstep
    have h1 := hstep f w' hb fun e he hbd hen => hR e.on hen (hall e he hbd)
    unfold wpOp
    simp only [ho]
    rw [if_pos (by simp [Region.wanted, hgd])]
    refine .inl (Oper.wp_mono ?_ h1)
    rintro a' w'' ⟨v, rfl, hv, hbw⟩
    have hcount : unl (listed.setIfInBounds i true) n = k := by
      have := unl_set hu n
      rw [if_pos hin] at this
      omega
    have hb2 := hb.trans (hbw.mono hb.size)
    have hanc : ∀ j k, Anc l j k → k < n → listed.getD k false = true → j < n ∧ listed.getD j false = true := by
      intro j k h
      induction h with
      | self => exact fun h1 h2 => ⟨h1, h2⟩
      | back ho he hbd hon _ ih =>
        intro h1 h2
        subst hon
        have := hback _ _ h1 ho _ he hbd
        exact ih (by omega) (inv.closed _ _ (by simpa using ho) h2 _ he hbd)
    have hfin : (fillA a (l.take n) f).put o.dst v = fillA a (l.take n) (updO f o.dst v) := by
      cases hdst : o.dst with
      | none => rfl
      | some d0 =>
        unfold fillA Act.put updO
        simp only
        rw [fillT_put (dst_mem ho' hin hdst)]
    rw [hfin]
    refine rel_run hle hwait hseq hg hnd hback hst hsup hsteps hend k _ (updO f o.dst v) w'' (inv.set hi hin) hcount hb2 fun j hjn hl => ?_
    by_cases hij : i = j
    · subst hij
      exact hv
    · rw [getD_set_ne false hij] at hl
      refine hsup j f _ _ (fun j' oj d haj hoj hd => ?_) (hst _ _ _ _ (hR j hjn hl) hbw)
      obtain ⟨hjn', hlj'⟩ := hanc _ _ haj hjn hl
      cases hdst : o.dst with
      | none => rfl
      | some d0 =>
        have hne : i ≠ j' := fun e => by
          subst e
          rw [getD_both hu] at hlj'
          cases hlj'
        have hdd := dst_ne hnd ho' hin hdst hoj hjn' hd hne
        unfold updO upd
        simp only
        rw [if_neg (fun e => hdd e.symm)]

theorem any_rel (n : Nat) (R : Nat → (Nat → Value) → World → Prop) (hB : relB l n = true) (hst : ∀ i g w1 w2, R i g w1 → Below w1.heap.size w1 w2 → R i g w2)
    (hsup : ∀ i g g' w, (∀ j o d, Anc l j i → l[j]? = some o → o.dst = some d → g d = g' d) → R i g w → R i g' w) (hsteps : StepsRel P l n R Q a w 0 (l.take n))
    (hend : ∀ f w', Below w.heap.size w w' → (∀ i, i < n → R i f w') → wpList P l.toArray Q (l.drop n) (fillA a (l.take n) f) w') : wpAny P .any l.toArray Q l.toArray.size (Array.replicate l.toArray.size false) a w.drew := by
  simp only [relB, Bool.and_eq_true, Bool.or_eq_true, decide_eq_true_eq, List.all_eq_true] at hB
  obtain ⟨⟨⟨⟨hw, hseq⟩, hg⟩, hnd⟩, hback⟩ := hB
  have hle : n ≤ l.length := by rcases hw with h | h <;> omega
  have hat : ∀ i o, i < n → l[i]? = some o → o ∈ l.take n := fun i o hin hi => by
    rw [List.mem_iff_getElem?]
    exact ⟨i, by rw [List.getElem?_take]; simp [hin, hi]⟩
  have H := rel_run (P := P) (Q := Q) (a := a) (w := w) hle ?_ hseq (fun i o hin hi => by simpa using hg o (hat i o hin hi)) hnd ?_ hst hsup hsteps hend n (Array.replicate l.toArray.size false) (fun d => a.tmps.getD d undef) w.drew
    ⟨by simp, fun j oj _ hl => (by rw [getD_replicate_false] at hl; cases hl), fun t _ ht => getD_in (by simpa using ht) (getD_replicate_false _ _)⟩ ?_ (Below.refl _ _).drew (fun i _ hl => by rw [getD_replicate_false] at hl; cases hl)
  · have e : fillA a (l.take n) (fun d => a.tmps.getD d undef) = a := by
      unfold fillA
      rw [fillT_self]
    rw [e] at H
    have hs : n + (l.length - n) = l.toArray.size := by simp; omega
    rw [hs] at H
    exact H
  · intro listed inv i hin hu t ht hr
    rcases hw with h | ⟨⟨h1, h2⟩, h3⟩
    · obtain ⟨_, o, ho, _⟩ := mem_ready.1 hr
      have := (Array.getElem?_eq_some_iff.1 ho).1
      simp at this
      omega
    · exact tail_waits h2 h3 (by simpa using h1) inv (n - i) i rfl hin hu t ht hr
  · intro i o hin hi e he hbd
    have := hback i (List.mem_range.2 hin)
    rw [hi] at this
    simp only [Option.map_some, Option.getD_some, Array.all_eq_true_iff_forall_mem, Bool.or_eq_true, Bool.not_eq_true', decide_eq_true_eq] at this
    rcases this e he with h | h
    · rw [h] at hbd; cases hbd
    · exact h
  · have key : ∀ m, m ≤ l.length → unl (Array.replicate l.toArray.size false) m = m := by
      intro m
      induction m with
      | zero => intro _; rfl
      | succ m ih =>
        intro hm
        have := ih (by omega)
        unfold unl at this ⊢
        have hml : m < l.length := by omega
        rw [List.range_succ, List.countP_append, this]
        simp [hml]
    exact key n hle
def evL (g : Nat → Value) : Operand → Value
  | .tmp t => g t
  | .const v => v
  | .global b => .pointer (some ⟨b, 0, none⟩)
  | .func f => .func (.func f) #[] #[]
theorem evL_eval (a : Act) : a.eval = evL (fun d => a.tmps.getD d undef) := by
  funext x
  cases x <;> rfl
def OpRel (P : Program) (o : Oper) (ev : Operand → Value) (w : World) (K : Value → World → Prop) : Prop :=
  match (execOp ev o).run P w with
  | .ok (.value v) w' => K v w'
  | .ok .skip w' => K undef w'
  | .ok (.enter f args) w' => Calls P f args w' fun e w'' => ∃ v, e = .returned v ∧ K v w''
  | _ => False
theorem OpRel.wp {P : Program} {o : Oper} {a : Act} {w : World} {K : Value → World → Prop} {Q : Exit → Act → World → Prop} (h : OpRel P o a.eval w K) : o.wp P a w (fun a' w' => ∃ v, a' = a.put o.dst v ∧ K v w') Q := by
  unfold OpRel at h
  unfold Oper.wp
  generalize (execOp a.eval o).run P w = r at *
  cases r with
  | ok n w' =>
    cases n <;> simp only [Oper.upon] at h ⊢
    case value v => exact ⟨v, rfl, h⟩
    case skip => exact ⟨undef, rfl, h⟩
    case enter f args =>
      refine h.mono ?_
      rintro e w'' ⟨v, rfl, hk⟩
      exact ⟨v, rfl, hk⟩
    all_goals exact h.elim
  | halt x w' => exact (h : False).elim
theorem StepRel.of {i : Nat} {o : Oper} (_hin : l[i]? = some o) (hi : i < n) (hB : relB l n = true) (hsz : ((l.take n).filterMap (·.dst)).all (fun d => decide (d < a.tmps.size)) = true)
    (hsup : ∀ i g g' w, (∀ j o d, Anc l j i → l[j]? = some o → o.dst = some d → g d = g' d) → R i g w → R i g' w)
    (h : ∀ (g : Nat → Value) w', Below w.heap.size w w' → (∀ d, ((l.take n).filterMap (·.dst)).contains d = false → g d = a.tmps.getD d undef) → Deps n R g w' o → OpRel P o (evL g) w' fun v w'' => R i (updO g o.dst v) w'' ∧ Below w'.heap.size w' w'') :
    StepRel P l n R Q a w i o := by
  simp only [relB, Bool.and_eq_true, Bool.or_eq_true, decide_eq_true_eq, List.all_eq_true] at hB
  obtain ⟨_, hback⟩ := hB
  have hback' : ∀ k oe, k < n → l[k]? = some oe → ∀ e ∈ oe.after, Region.binds .any e = true → e.on < k := fun k oe hk hoe e he hbd => by
    have := hback k (List.mem_range.2 hk)
    rw [hoe] at this
    simp only [Option.map_some, Option.getD_some, Array.all_eq_true_iff_forall_mem, Bool.or_eq_true, Bool.not_eq_true', decide_eq_true_eq] at this
    rcases this e he with h | h
    · rw [h] at hbd; cases hbd
    · exact h
  have hanc : ∀ j k, Anc l j k → k < n → j < n := by
    intro j k h
    induction h with
    | self => exact id
    | back ho he hbd hon _ ih =>
      intro h1
      subst hon
      have := hback' _ _ h1 ho _ he hbd
      exact ih (by omega)
  have hsz' : ∀ d ∈ (l.take n).filterMap (·.dst), d < a.tmps.size := fun d hd => by
    have := List.all_eq_true.1 hsz d hd
    simpa using this
  intro f w' hb hd
  have hg : ∀ d ∈ (l.take n).filterMap (·.dst), (fillA a (l.take n) f).tmps.getD d undef = f d := fun d hd => by
    have h1 := fillT_get ((l.take n).filterMap (·.dst)) f a.tmps d
    rw [if_pos (hsz' d hd), if_pos hd] at h1
    unfold fillA
    simp only [Array.getD_eq_getD_getElem?, h1, Option.getD_some]
  have ho : ∀ d, ((l.take n).filterMap (·.dst)).contains d = false → (fillA a (l.take n) f).tmps.getD d undef = a.tmps.getD d undef := fun d hd => by
    have h1 := fillT_get ((l.take n).filterMap (·.dst)) f a.tmps d
    have h2 : d ∉ (l.take n).filterMap (·.dst) := by simpa using hd
    rw [if_neg h2] at h1
    unfold fillA
    simp only [Array.getD_eq_getD_getElem?, h1]
    by_cases hl : d < a.tmps.size
    · rw [if_pos hl]
    · rw [if_neg hl, Array.getElem?_eq_none (Nat.le_of_not_lt hl)]
  have key := h (fun d => (fillA a (l.take n) f).tmps.getD d undef) w' hb ho (fun e he hbd hen => hsup e.on f _ _ (fun j oj d haj hoj hdj => (hg d (dst_mem hoj (hanc _ _ haj hen) hdj)).symm) (hd e he hbd hen))
  rw [← evL_eval] at key
  refine Oper.wp_mono ?_ key.wp
  rintro a' w'' ⟨v, rfl, hr, hbw⟩
  refine ⟨v, rfl, hsup i _ _ _ (fun j oj d haj hoj hdj => ?_) hr, hbw⟩
  have hjn := hanc _ _ haj hi
  have hmem := dst_mem hoj hjn hdj
  cases hdst : o.dst with
  | none => exact hg d hmem
  | some d0 =>
    unfold updO upd
    simp only
    split
    · rfl
    · exact hg d hmem

abbrev RelP := (Nat → Value) → World → Prop
def atR (Rs : List RelP) (i : Nat) : RelP := Rs.getD i (fun _ _ => True)
def AllR : List RelP → (Nat → Value) → World → Prop
  | [], _, _ => True
  | p :: r, g, w => p g w ∧ AllR r g w
/-- One operation: what it says stays, hangs on what came before it alone, and comes. -/
def OpOK (P : Program) (l : List Oper) (n : Nat) (Rs : List RelP) (a : Act) (w : World) (i : Nat) (o : Oper) (p : RelP) : Prop :=
  (∀ g w1 w2, p g w1 → Below w1.heap.size w1 w2 → p g w2) ∧ (∀ g g' w, (∀ j o d, Anc l j i → l[j]? = some o → o.dst = some d → g d = g' d) → p g w → p g' w) ∧
  ∀ g w', Below w.heap.size w w' → (∀ d, ((l.take n).filterMap (·.dst)).contains d = false → g d = a.tmps.getD d undef) → Deps n (atR Rs) g w' o → OpRel P o (evL g) w' fun v w'' => p (updO g o.dst v) w'' ∧ Below w'.heap.size w' w''
def OpsOK (P : Program) (l : List Oper) (n : Nat) (Rs : List RelP) (a : Act) (w : World) : Nat → List Oper → List RelP → Prop
  | _, [], _ => True
  | _, _ :: _, [] => False
  | i, o :: r, p :: ps => OpOK P l n Rs a w i o p ∧ OpsOK P l n Rs a w (i + 1) r ps
theorem OpsOK.at {Rs : List RelP} : ∀ {r : List Oper} {ps : List RelP} {k : Nat}, OpsOK P l n Rs a w k r ps → ∀ {j : Nat} {o : Oper}, r[j]? = some o → OpOK P l n Rs a w (k + j) o (ps.getD j (fun _ _ => True))
  | [], _, _, _, _, _, h => by simp at h
  | _ :: _, [], _, h, _, _, _ => h.elim
  | x :: r, p :: ps, k, h, 0, o, hj => by
    simp at hj
    subst hj
    exact h.1
  | x :: r, p :: ps, k, h, j + 1, o, hj => by
    have := OpsOK.at h.2 (j := j) (o := o) (by simpa using hj)
    rw [show k + 1 + j = k + (j + 1) by omega] at this
    simpa using this
theorem AllR.of {Rs : List RelP} {g : Nat → Value} {w : World} (h : ∀ i, i < Rs.length → atR Rs i g w) : AllR Rs g w := by
  induction Rs with
  | nil => trivial
  | cons p r ih => exact ⟨h 0 (by simp), ih fun i hi => h (i + 1) (by simp; omega)⟩
theorem any_ops (n : Nat) (Rs : List RelP) (hB : relB l n = true) (hn : Rs.length = n) (hsz : ((l.take n).filterMap (·.dst)).all (fun d => decide (d < a.tmps.size)) = true)
    (hops : OpsOK P l n Rs a w 0 (l.take n) Rs) (hend : ∀ f w', Below w.heap.size w w' → AllR Rs f w' → wpList P l.toArray Q (l.drop n) (fillA a (l.take n) f) w') : wpAny P .any l.toArray Q l.toArray.size (Array.replicate l.toArray.size false) a w.drew := by
  have hle : n ≤ l.length := by
    have := hB
    simp only [relB, Bool.and_eq_true, Bool.or_eq_true, decide_eq_true_eq] at this
    rcases this.1.1.1.1 with h | h <;> omega
  have hat : ∀ i, i < n → ∃ o, l[i]? = some o ∧ OpOK P l n Rs a w i o (atR Rs i) := fun i hi => by
    have hil : i < l.length := by omega
    refine ⟨l[i], by simp [hil], ?_⟩
    have := hops.at (j := i) (o := l[i]) (by rw [List.getElem?_take]; simp [hi, hil])
    rwa [Nat.zero_add] at this
  have hst : ∀ i g w1 w2, atR Rs i g w1 → Below w1.heap.size w1 w2 → atR Rs i g w2 := fun i g w1 w2 h hb => by
    by_cases hi : i < n
    · obtain ⟨o, _, h1, _⟩ := hat i hi
      exact h1 g w1 w2 h hb
    · unfold atR
      rw [List.getD_eq_getElem?_getD, List.getElem?_eq_none (by omega)]
      trivial
  have hsup : ∀ i g g' w, (∀ j o d, Anc l j i → l[j]? = some o → o.dst = some d → g d = g' d) → atR Rs i g w → atR Rs i g' w := fun i g g' w1 he h => by
    by_cases hi : i < n
    · obtain ⟨o, _, _, h2, _⟩ := hat i hi
      exact h2 g g' w1 he h
    · unfold atR
      rw [List.getD_eq_getElem?_getD, List.getElem?_eq_none (by omega)]
      trivial
  refine any_rel n (atR Rs) hB hst hsup ?_ (fun f w' hb hR => hend f w' hb (AllR.of fun i hi => hR i (by omega)))
  have key : ∀ (r : List Oper) (k : Nat), (∀ j o, r[j]? = some o → k + j < n ∧ l[k + j]? = some o) → StepsRel P l n (atR Rs) Q a w k r := by
    intro r
    induction r with
    | nil => intro _ _; trivial
    | cons x r ih =>
      intro k h
      obtain ⟨hk, hx⟩ := h 0 x (by simp)
      rw [Nat.add_zero] at hk hx
      obtain ⟨o, ho, _, _, h3⟩ := hat k hk
      rw [hx] at ho
      injection ho with ho
      subst ho
      exact ⟨StepRel.of hx hk hB hsz hsup h3, ih (k + 1) fun j o hj => by
        have := h (j + 1) o (by simpa using hj)
        rwa [show k + (j + 1) = k + 1 + j by omega] at this⟩
  exact key _ 0 fun j o hj => by
    rw [List.getElem?_take] at hj
    by_cases h : j < n
    · rw [if_pos h] at hj
      exact ⟨by omega, by simpa using hj⟩
    · rw [if_neg h] at hj
      cases hj

theorem wp_region_ops (n : Nat) (Rs : List RelP) {id : Nat} (hm : P.follows .mixedOrders = true) (hB : relB l n = true) (hn : Rs.length = n) (hsz : ((l.take n).filterMap (·.dst)).all (fun d => decide (d < a.tmps.size)) = true)
    (hops : OpsOK P l n Rs a w 0 (l.take n) Rs) (hend : ∀ f w', Below w.heap.size w w' → AllR Rs f w' → wpList P l.toArray Q (l.drop n) (fillA a (l.take n) f) w') : (Code.region id l.toArray true).wp P Q a w :=
  wp_region_any hm (any_ops n Rs hB hn hsz hops hend)
theorem OpsOK.nil {Rs : List RelP} {i : Nat} {ps : List RelP} : OpsOK P l n Rs a w i [] ps := by cases ps <;> trivial
theorem OpsOK.cons {Rs : List RelP} {i : Nat} {o : Oper} {r : List Oper} {p : RelP} {ps : List RelP} (h : OpOK P l n Rs a w i o p) (h' : OpsOK P l n Rs a w (i + 1) r ps) : OpsOK P l n Rs a w i (o :: r) (p :: ps) := ⟨h, h'⟩
/-- An operation whose value is known. -/
theorem OpOK.val {Rs : List RelP} {i d : Nat} {o : Oper} {c : Value} (hi : l[i]? = some o) (ho : o.dst = some d)
    (h : ∀ g w', Below w.heap.size w w' → (∀ d, ((l.take n).filterMap (·.dst)).contains d = false → g d = a.tmps.getD d undef) → Deps n (atR Rs) g w' o → (execOp (evL g) o).run P w' = .ok (.value c) w') :
    OpOK P l n Rs a w i o (fun g _ => g d = c) := by
  refine ⟨fun _ _ _ h _ => h, fun g g' _ he h => (he i o d (Anc.self i) hi ho).symm.trans h, fun g w' hb hout hd => ?_⟩
  unfold OpRel
  rw [h g w' hb hout hd]
  refine ⟨?_, Below.refl _ _⟩
  rw [ho]
  unfold updO upd
  simp
/-- An operation of whose value something is known, by itself. -/
theorem OpOK.one {Rs : List RelP} {i d : Nat} {o : Oper} {p : Value → World → Prop} (hi : l[i]? = some o) (ho : o.dst = some d) (hst : ∀ v w1 w2, p v w1 → Below w1.heap.size w1 w2 → p v w2)
    (h : ∀ g w', Below w.heap.size w w' → (∀ d, ((l.take n).filterMap (·.dst)).contains d = false → g d = a.tmps.getD d undef) → Deps n (atR Rs) g w' o → OpRel P o (evL g) w' fun v w'' => p v w'' ∧ Below w'.heap.size w' w'') :
    OpOK P l n Rs a w i o (fun g w => p (g d) w) := by
  refine ⟨fun g w1 w2 h hb => hst _ _ _ h hb, fun g g' w1 he h => ?_, fun g w' hb hout hd => ?_⟩
  · show p (g' d) w1
    rw [← he i o d (Anc.self i) hi ho]
    exact h
  · have := h g w' hb hout hd
    rw [ho]
    have e : ∀ v, updO g (some d) v d = v := fun v => by unfold updO upd; simp
    simpa only [e] using this
theorem evL_tmp (g : Nat → Value) (t : Nat) : evL g (.tmp t) = g t := rfl
theorem evL_const (g : Nat → Value) (v : Value) : evL g (.const v) = v := rfl
theorem evL_func (g : Nat → Value) (f : FuncId) : evL g (.func f) = .func (.func f) #[] #[] := rfl
end
end Wh
namespace Wh
open Go Go.RowKit Go.Proofs

/-- The box that a state lies in. -/
def BoxAt (w : World) (b : Nat) (V : SV) : Prop := w.heap[b]? = some (.cells V.cells.toArray 31 (0, 0))
theorem BoxAt.lt {w : World} {b : Nat} {V : SV} (h : BoxAt w b V) : b < w.heap.size := (Array.getElem?_eq_some_iff.1 h).1
theorem BoxAt.blk {w : World} {b : Nat} {V : SV} (h : BoxAt w b V) : Blk w b 31 V.cells := h
theorem BoxAt.below {w w' : World} {b B : Nat} {V : SV} (h : BoxAt w b V) (hb : Below B w w') (hB : b < B) : BoxAt w' b V := (hb.block b hB).trans h
theorem BoxAt.grown {w w' : World} {b : Nat} {V : SV} {row : Option Nat} (h : BoxAt w b V) (hg : w.grownBy w' row) (hne : some b ≠ row) : BoxAt w' b V := (hg.block b h.lt hne).trans h
theorem BoxAt.cells {w : World} {b : Nat} {V : SV} (h : BoxAt w b V) : w.cell? ⟨b, 0, none⟩ = some V.on ∧ w.cell? ⟨b, 1, none⟩ = some V.orders ∧ w.cell? ⟨b, 2, none⟩ = some V.holds ∧ w.cell? ⟨b, 3, none⟩ = some V.moves ∧
    w.cell? ⟨b, 4, none⟩ = some V.inn ∧ w.cell? ⟨b, 5, none⟩ = some V.out ∧ w.cell? ⟨b, 6, none⟩ = some V.fixed :=
  ⟨h.blk.cell rfl, h.blk.cell rfl, h.blk.cell rfl, h.blk.cell rfl, h.blk.cell rfl, h.blk.cell rfl, h.blk.cell rfl⟩
theorem BoxAt.frozen {w : World} {b : Nat} {V : SV} (h : BoxAt w b V) (o : Nat) : w.frozen? ⟨b, o, none⟩ = false := h.blk.frozen o
theorem set_row {w : World} {g : Nat} {e : TypeId} {cur : List Value} (h : Blk w g e cur) (j : Nat) (u : Value) : Blk (w.setCell ⟨g, j, none⟩ u) g e (cur.set j u) ∧ w.grownBy (w.setCell ⟨g, j, none⟩ u) (some g) := by
  unfold Blk at h
  have hl := (Array.getElem?_eq_some_iff.1 h).1
  constructor
  · unfold Blk World.setCell
    simp [Array.getElem?_modify, h]
  · refine ⟨rfl, rfl, rfl, by simp [World.setCell], fun k hk hne => ?_⟩
    unfold World.setCell
    simp only
    rw [Array.getElem?_modify]
    rw [if_neg (fun e => hne (by rw [e]))]
theorem BoxAt.setOn {w : World} {b : Nat} {V : SV} (h : BoxAt w b V) (u : Value) : BoxAt (w.setCell ⟨b, 0, none⟩ u) b { V with on := u } := (set_row h.blk 0 u).1
theorem BoxAt.setOrders {w : World} {b : Nat} {V : SV} (h : BoxAt w b V) (u : Value) : BoxAt (w.setCell ⟨b, 1, none⟩ u) b { V with orders := u } := (set_row h.blk 1 u).1
/-- A state stored into its box. -/
theorem wpList_store_state {ops : Array Oper} {rest : List Oper} {o : Oper} {a : Act} {w : World} {Q : Exit → Act → World → Prop} (hgd : o.guard = none) (x y : Operand) (ho : o.op = .store 31 x y) (hn : o.dst = none) (b : Nat) (V V' : SV)
    (hbox : BoxAt w b V) (hx : a.eval x = .pointer (some ⟨b, 0, none⟩)) (hy : a.eval y = V'.val) (h1 : V'.cells.all (fun u => u.oneCell') = true)
    (h : ∀ w', BoxAt w' b V' → w.grownBy w' (some b) → wpList Try.prog ops Q rest a w') : wpList Try.prog ops Q (o :: rest) a w :=
  wpList_plain hgd fun K hK => by
    refine wp_store_row (P := Try.prog) 31 x y ho b V'.cells.toArray hx hy 31 V.cells.toArray hbox (by kernel_rfl) rfl (by simpa using h1) ?_
    rw [hn]
    exact hK _ _ (h _ (hbox.blk.row V'.cells) (grown_row w b V'.cells.toArray))
theorem Own.notBox {α : Type} {enc : α → List Value} {size : Nat} {e : TypeId} {w : World} {base : Nat} {v : Value} {l : List α} (h : Own enc size e w base v l) {b : Nat} {t : TypeId} {cur : List Value} (hb : Blk w b t cur) (hne : e ≠ t) :
    v.ownBlock = none ∨ v.ownBlock ≠ some b := by
  cases hv : v.ownBlock with
  | none => exact .inl rfl
  | some g =>
    refine .inr fun he => ?_
    injection he with he
    subst he
    obtain ⟨c1, h1⟩ := h.block hv
    unfold Blk at hb
    rw [h1] at hb
    injection hb with h2
    injection h2 with _ h3
    exact hne h3
namespace OwnSt
variable {w w' : World} {base : Nat} {V : SV} {s : State}
/-- A block of another type was written. -/
theorem keptBy (h : OwnSt w base V s) {b : Nat} {t : TypeId} {cur : List Value} (hg : w.grownBy w' (some b)) (hb : Blk w b t cur) (h1 : 23 ≠ t) (h2 : 3 ≠ t) (h3 : 58 ≠ t) (h4 : 70 ≠ t) (h5 : 65 ≠ t) (h6 : 42 ≠ t) : OwnSt w' base V s :=
  ⟨h.on.kept hg (h.on.notBox hb h1), h.rlen, fun b hlt => (h.row b hlt).kept hg ((h.row b hlt).notBox hb h2), h.orders.kept hg (h.orders.notBox hb h3), h.llen, fun o ho => (h.line o ho).kept hg ((h.line o ho).notBox hb h4),
    h.holds.kept hg (h.holds.notBox hb h5), h.moves.kept hg (h.moves.notBox hb h6), h.inn.kept hg (h.inn.notBox hb h2), h.out.kept hg (h.out.notBox hb h2), h.fixed.kept hg (h.fixed.notBox hb h2), h.apart, h.apartl⟩
theorem box (h : OwnSt w base V s) {b : Nat} {V' : SV} (hb : BoxAt w b V') (j : Nat) (u : Value) : OwnSt (w.setCell ⟨b, j, none⟩ u) base V s :=
  h.keptBy (set_row hb.blk j u).2 hb.blk (by decide) (by decide) (by decide) (by decide) (by decide) (by decide)
theorem ords_push {l : List Order} {vs : List Value} (h : vs.length = l.length) (x : Order) (u : Value) : ords (l ++ [x]) (vs ++ [u]) = ords l vs ++ [(x.kind, u)] := by
  unfold ords
  rw [List.zipWith_append h.symm]
  rfl
/-- An order more. -/
theorem pushOrder {w1 w2 : World} (h : OwnSt w base V s) (hb : Below w.heap.size w w1) {u : Value} {x : Order} (hu : Own cLine 4 70 w1 base u x.lines) (hf : ∀ g, u.ownBlock = some g → w.heap.size ≤ g) (hg : w1.grownBy w2 V.orders.ownBlock)
    {v' : Value} (hv : Own cOrd 2 58 w2 base v' (ords s.orders V.lines ++ [(x.kind, u)])) : OwnSt w2 base { V with orders := v', lines := V.lines ++ [u] } { s with orders := s.orders ++ [x] } := by
  have k := h.below hb
  refine ⟨k.on.kept hg (k.on.apart k.orders (by decide)), k.rlen, fun b hlt => (k.row b hlt).kept hg ((k.row b hlt).apart k.orders (by decide)), ?_, by simp [h.llen], fun o ho => ?_,
    k.holds.kept hg (k.holds.apart k.orders (by decide)), k.moves.kept hg (k.moves.apart k.orders (by decide)), k.inn.kept hg (k.inn.apart k.orders (by decide)), k.out.kept hg (k.out.apart k.orders (by decide)), k.fixed.kept hg (k.fixed.apart k.orders (by decide)), k.apart, ?_⟩
  · show Own cOrd 2 58 w2 base v' (ords (s.orders ++ [x]) (V.lines ++ [u]))
    rw [ords_push h.llen]
    exact hv
  · have ho' : o < s.orders.length + 1 := by simpa using ho
    by_cases hlt : o < s.orders.length
    · have e1 : SV.line { V with orders := v', lines := V.lines ++ [u] } o = V.line o := by
        unfold SV.line
        simp [List.getD_eq_getElem?_getD, List.getElem?_append_left (show o < V.lines.length by rw [h.llen]; exact hlt)]
      have e2 : State.order { s with orders := s.orders ++ [x] } o = s.order o := by
        unfold State.order orderAt
        simp [List.getD_eq_getElem?_getD, List.getElem?_append_left hlt]
      rw [e1, e2]
      exact (k.line o hlt).kept hg ((k.line o hlt).apart k.orders (by decide))
    · have ho2 : o = s.orders.length := by omega
      have e1 : SV.line { V with orders := v', lines := V.lines ++ [u] } o = u := by
        unfold SV.line
        rw [ho2, ← h.llen]
        simp
      have e2 : State.order { s with orders := s.orders ++ [x] } o = x := by
        unfold State.order orderAt
        rw [ho2]
        simp
      rw [e1, e2]
      exact hu.kept hg (hu.apart k.orders (by decide))
  · show apartL (V.lines ++ [u])
    unfold apartL
    rw [List.pairwise_append]
    refine ⟨h.apartl, List.pairwise_singleton _ _, fun a ha b hb' g hga => ?_⟩
    obtain rfl := List.mem_singleton.1 hb'
    intro he
    have h1 := hf g he
    obtain ⟨i, hi, rfl⟩ := List.getElem_of_mem ha
    have hil : i < s.orders.length := by rw [← h.llen]; exact hi
    have e1 : V.line i = V.lines[i] := by unfold SV.line; simp [hi]
    have h2 := ((h.line i hil).size g (by rw [e1]; exact hga)).2
    omega
end OwnSt
section
variable {P : Program}
end
/-- The sums' slices, made one behind the other: none in a block of the rows, nor of another. -/
def NumsI (w : World) (B : Nat) (on : List (List Int)) (inn : List Int) (vO vI : Value) : Prop := ∃ gs, OwnOn 23 3 w B vO on gs ∧ Own cInt 1 3 w B vI inn ∧ ∀ x ∈ gs, vI.ownBlock ≠ some x
def NumsU (w : World) (B : Nat) (on : List (List Int)) (inn out : List Int) (vO vI vU : Value) : Prop := ∃ gs, OwnOn 23 3 w B vO on gs ∧ (Own cInt 1 3 w B vI inn ∧ ∀ x ∈ gs, vI.ownBlock ≠ some x) ∧
  Own cInt 1 3 w B vU out ∧ (∀ x ∈ gs, vU.ownBlock ≠ some x) ∧ ∀ x, vI.ownBlock = some x → vU.ownBlock ≠ some x
def NumsX (w : World) (B : Nat) (on : List (List Int)) (inn out fixed : List Int) (vO vI vU vX : Value) : Prop := ∃ gs, OwnOn 23 3 w B vO on gs ∧ (Own cInt 1 3 w B vI inn ∧ ∀ x ∈ gs, vI.ownBlock ≠ some x) ∧
  (Own cInt 1 3 w B vU out ∧ (∀ x ∈ gs, vU.ownBlock ≠ some x) ∧ ∀ x, vI.ownBlock = some x → vU.ownBlock ≠ some x) ∧
  Own cInt 1 3 w B vX fixed ∧ (∀ x ∈ gs, vX.ownBlock ≠ some x) ∧ (∀ x, vI.ownBlock = some x → vX.ownBlock ≠ some x) ∧ ∀ x, vU.ownBlock = some x → vX.ownBlock ≠ some x
section
variable {w w' : World} {B : Nat} {on : List (List Int)} {inn out fixed : List Int} {vO vI vU vX : Value}
theorem NumsI.below (h : NumsI w B on inn vO vI) (hb : Below w.heap.size w w') : NumsI w' B on inn vO vI := let ⟨gs, h1, h2, h3⟩ := h; ⟨gs, h1.below hb, h2.below hb, h3⟩
theorem NumsU.below (h : NumsU w B on inn out vO vI vU) (hb : Below w.heap.size w w') : NumsU w' B on inn out vO vI vU := let ⟨gs, h1, ⟨h2, h3⟩, h4, h5⟩ := h; ⟨gs, h1.below hb, ⟨h2.below hb, h3⟩, h4.below hb, h5⟩
theorem NumsX.below (h : NumsX w B on inn out fixed vO vI vU vX) (hb : Below w.heap.size w w') : NumsX w' B on inn out fixed vO vI vU vX :=
  let ⟨gs, h1, ⟨h2, h3⟩, ⟨h4, h5⟩, h6, h7⟩ := h
  ⟨gs, h1.below hb, ⟨h2.below hb, h3⟩, ⟨h4.below hb, h5⟩, h6.below hb, h7⟩
theorem fresh_ne {v : Value} {l : List Int} (h : Own cInt 1 3 w' w.heap.size v l) {x : Nat} (hx : x < w.heap.size) : v.ownBlock ≠ some x := fun he => by
  have := (h.size x he).1
  omega
theorem NumsI.of {gs : List Nat} (h : OwnOn 23 3 w B vO on gs) (hB : B ≤ w.heap.size) (hb : Below w.heap.size w w') (hv : Own cInt 1 3 w' w.heap.size vI inn) : NumsI w' B on inn vO vI :=
  ⟨gs, h.below hb, hv.from_ hB, fun _ hx => fresh_ne hv (h.mem hx).2⟩
theorem NumsU.of (h : NumsI w B on inn vO vI) (hB : B ≤ w.heap.size) (hb : Below w.heap.size w w') (hv : Own cInt 1 3 w' w.heap.size vU out) : NumsU w' B on inn out vO vI vU :=
  let ⟨gs, h1, h2, h3⟩ := h
  ⟨gs, h1.below hb, ⟨h2.below hb, h3⟩, hv.from_ hB, fun _ hx => fresh_ne hv (h1.mem hx).2, fun x hx => fresh_ne hv (h2.size x hx).2⟩
theorem NumsX.of (h : NumsU w B on inn out vO vI vU) (hB : B ≤ w.heap.size) (hb : Below w.heap.size w w') (hv : Own cInt 1 3 w' w.heap.size vX fixed) : NumsX w' B on inn out fixed vO vI vU vX :=
  let ⟨gs, h1, ⟨h2, h3⟩, h4, h5, h6⟩ := h
  ⟨gs, h1.below hb, ⟨h2.below hb, h3⟩, ⟨h4.below hb, h5, h6⟩, hv.from_ hB, fun _ hx => fresh_ne hv (h1.mem hx).2, fun x hx => fresh_ne hv (h2.size x hx).2, fun x hx => fresh_ne hv (h4.size x hx).2⟩
theorem OwnOn.isSlice {E2 E1 : TypeId} {gs : List Nat} {v : Value} (h : OwnOn E2 E1 w B v on gs) : ∃ A c, v = .slice A on.length c := by
  obtain ⟨vs, h1, h2, _⟩ := h
  obtain ⟨A, c, e⟩ := h1.isSlice
  exact ⟨A, c, by rw [e, h2]⟩
theorem NumsI.isSlice (h : NumsI w B on inn vO vI) : ∃ A c, vI = .slice A inn.length c := let ⟨_, _, h2, _⟩ := h; h2.isSlice
theorem NumsU.isSlice (h : NumsU w B on inn out vO vI vU) : ∃ A c, vU = .slice A out.length c := let ⟨_, _, _, h4, _⟩ := h; h4.isSlice
theorem NumsX.isSlice (h : NumsX w B on inn out fixed vO vI vU vX) : ∃ A c, vX = .slice A fixed.length c := let ⟨_, _, _, _, h6, _⟩ := h; h6.isSlice
theorem NumsX.isSlice0 (h : NumsX w B on inn out fixed vO vI vU vX) : ∃ A c, vO = .slice A on.length c := let ⟨_, h1, _⟩ := h; h1.isSlice
/-- A state without orders, made of its slices. -/
theorem NumsX.made (h : NumsX w B on inn out fixed vO vI vU vX) {vH vM : Value} {holds : List Hold} {moves : List Move} (hH : Own cHold 4 65 w B vH holds) (hM : Own cMove 4 42 w B vM moves) :
    ∃ vs, OwnSt w B ⟨vO, nilV, vH, vM, vI, vU, vX, vs, []⟩ ⟨on, [], holds, moves, inn, out, fixed⟩ := by
  obtain ⟨gs, ⟨vs, k1, k2, k3, k4, k5⟩, ⟨h2, h3⟩, ⟨h4, h5, h6⟩, h7, h8, h9, h10⟩ := h
  have hrow : ∀ b, b < on.length → ∃ g c, vs.getD b nilV = .slice (some ⟨g, 0, none⟩) (rowAt on b).length c ∧ gs[b]? = some g ∧ Own cInt 1 3 w B (.slice (some ⟨g, 0, none⟩) (rowAt on b).length c) (rowAt on b) := fun b hb => by
    obtain ⟨g, c, e1, e2, e3⟩ := k5 b on[b] (by simp [hb])
    rw [rowAt_eq hb]
    exact ⟨g, c, by rw [List.getD_eq_getElem?_getD, e1]; rfl, e2, e3⟩
  have hmem : ∀ u ∈ vs, ∃ g ∈ gs, u.ownBlock = some g := fun u hu => by
    obtain ⟨i, hi, rfl⟩ := List.getElem_of_mem hu
    obtain ⟨g, c, e1, e2, _⟩ := k5 i on[i] (by simp [← k2, hi])
    rw [List.getElem?_eq_getElem hi] at e1
    injection e1 with e1
    exact ⟨g, List.mem_of_getElem? e2, by rw [e1]; rfl⟩
  refine ⟨vs, k1, k2, fun b hb => ?_, Own.nil, rfl, (fun o ho => by cases ho), hH, hM, h2, h4, h7, ?_, List.Pairwise.nil⟩
  · obtain ⟨g, c, e1, _, e3⟩ := hrow b hb
    show Own cInt 1 3 w B (vs.getD b nilV) (rowAt on b)
    rw [e1]
    exact e3
  · show apartL (vs ++ [vI, vU, vX])
    unfold apartL
    rw [List.pairwise_append]
    refine ⟨?_, ?_, fun a ha b hb g hg => ?_⟩
    · rw [List.pairwise_iff_getElem]
      intro i j hi hj hij g hg he
      obtain ⟨g1, c1, a1, b1, _⟩ := k5 i on[i] (by simp [← k2, hi])
      obtain ⟨g2, c2, a2, b2, _⟩ := k5 j on[j] (by simp [← k2, hj])
      rw [List.getElem?_eq_getElem hi] at a1
      rw [List.getElem?_eq_getElem hj] at a2
      injection a1 with a1
      injection a2 with a2
      rw [a1] at hg
      rw [a2] at he
      simp only [Value.ownBlock, Option.some.injEq] at hg he
      have hgi : i < gs.length := by rw [k3, ← k2]; exact hi
      have hgj : j < gs.length := by rw [k3, ← k2]; exact hj
      rw [List.getElem?_eq_getElem hgi] at b1
      rw [List.getElem?_eq_getElem hgj] at b2
      injection b1 with b1
      injection b2 with b2
      have : gs[i] = gs[j] := by rw [b1, b2, hg, he]
      have := (List.getElem_inj k4).1 this
      omega
    · refine List.Pairwise.cons (fun b hb g hg => ?_) (List.Pairwise.cons (fun b hb g hg => ?_) (List.pairwise_singleton _ _))
      · rcases List.mem_cons.1 hb with rfl | hb
        · exact h6 g hg
        · obtain rfl := List.mem_singleton.1 hb
          exact h9 g hg
      · obtain rfl := List.mem_singleton.1 hb
        exact h10 g hg
    · obtain ⟨g', hg', e⟩ := hmem a ha
      rw [hg] at e
      injection e with e
      subst e
      simp only [List.mem_cons, List.not_mem_nil, or_false] at hb
      rcases hb with rfl | rfl | rfl
      · exact h3 g hg'
      · exact h5 g hg'
      · exact h8 g hg'
end
end Wh
