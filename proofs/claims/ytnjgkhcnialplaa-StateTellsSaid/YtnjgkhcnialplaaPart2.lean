/- Texts of the claim, joined: Rel, OwnT, PlainG, Reg, Two, StateA, WalkD, WalkE, WalkF, WalkG, WalkH, WalkI, WalkJ, StateK, PlainH, HoldsA, HoldsB, HoldsC, WalkL, WalkN, Same. -/
import Derived.StillTail
import Derived.Laws.Tables
import Derived.Lib.SliceRun
import Derived.Deep.RegionHeld3
import Derived.Laws.StructEq
import Derived.Test.YtnjgkhcnialplaaPart1
namespace Wh
open Go Go.RowKit
def fillT (t : Array Value) (ds : List Nat) (f : Nat → Value) : Array Value := ds.foldl (fun t d => t.setIfInBounds d (f d)) t
/-- The frame, the region's slots filled. -/
def fillA (a : Act) (l : List Oper) (f : Nat → Value) : Act := { a with tmps := fillT a.tmps (l.filterMap (·.dst)) f }
def upd (f : Nat → Value) (d : Nat) (v : Value) (k : Nat) : Value := if k = d then v else f k
theorem fillT_get (ds : List Nat) (f : Nat → Value) : ∀ (t : Array Value) (k : Nat), (fillT t ds f)[k]? = if k < t.size then (if k ∈ ds then some (f k) else t[k]?) else none := by
  induction ds with
  | nil =>
    intro t k
    show t[k]? = _
    by_cases h : k < t.size
    · simp [h]
    · simp [h]
  | cons d ds ih =>
    intro t k
    show (fillT (t.setIfInBounds d (f d)) ds f)[k]? = _
    rw [ih, Array.size_setIfInBounds, Array.getElem?_setIfInBounds]
    by_cases h : k < t.size
    · by_cases hk : k ∈ ds
      · simp [h, hk]
      · by_cases hd : d = k
        · subst hd; simp [h, hk]
        · have hd' : ¬ k = d := fun e => hd e.symm
          simp [h, hk, hd, hd']
    · simp [h]
theorem fillT_put {t : Array Value} {ds : List Nat} {f : Nat → Value} {d : Nat} (hd : d ∈ ds) (v : Value) : (fillT t ds f).setIfInBounds d v = fillT t ds (upd f d v) := by
  apply Array.ext_getElem?
  intro k
  rw [Array.getElem?_setIfInBounds, fillT_get, fillT_get]
  have hs : (fillT t ds f).size = t.size := by
    unfold fillT
    induction ds generalizing t with
    | nil => rfl
    | cons e ds ih =>
      by_cases h : d ∈ ds
      · rw [List.foldl_cons, ih h, Array.size_setIfInBounds]
      · have aux : ∀ (ds : List Nat) (t : Array Value), (ds.foldl (fun t d => t.setIfInBounds d (f d)) t).size = t.size := by
          intro ds
          induction ds with
          | nil => intro t; rfl
          | cons x xs ihx => intro t; rw [List.foldl_cons, ihx, Array.size_setIfInBounds]
        exact aux _ _
  rw [hs]
  unfold upd
  by_cases h : k < t.size
  · by_cases hk : d = k
    · subst hk; simp [h, hd]
    · have hk' : ¬ k = d := fun e => hk e.symm
      simp [h, hk, hk']
  · by_cases hk : d = k
    · subst hk; simp [h]
    · simp [h, hk]
theorem fillT_self (t : Array Value) (ds : List Nat) : fillT t ds (fun d => t.getD d undef) = t := by
  apply Array.ext_getElem?
  intro k
  rw [fillT_get]
  by_cases h : k < t.size
  · by_cases hk : k ∈ ds <;> simp [h, hk, Array.getD]
  · simp [h]

/-- Operation j, or one that i waits for, however far back. -/
inductive Anc (l : List Oper) : Nat → Nat → Prop
  | self (i : Nat) : Anc l i i
  | back {j k i : Nat} {o : Oper} {e : Edge} : l[i]? = some o → e ∈ o.after → Region.binds .any e = true → e.on = k → Anc l j k → Anc l j i
def updO (f : Nat → Value) (d : Option Nat) (v : Value) : Nat → Value := match d with | some d => upd f d v | none => f
/-- What the operations say that this one waits for. -/
def Deps (n : Nat) (R : Nat → (Nat → Value) → World → Prop) (f : Nat → Value) (w : World) (o : Oper) : Prop :=
  ∀ e ∈ o.after, Region.binds .any e = true → e.on < n → R e.on f w
/-- What is to be shown of one operation. -/
def StepRel (P : Program) (l : List Oper) (n : Nat) (R : Nat → (Nat → Value) → World → Prop) (Q : Exit → Act → World → Prop) (a : Act) (w : World) (i : Nat) (o : Oper) : Prop :=
  ∀ f w', Below w.heap.size w w' → Deps n R f w' o → o.wp P (fillA a (l.take n) f) w' (fun a' w'' => ∃ v, a' = (fillA a (l.take n) f).put o.dst v ∧ R i (updO f o.dst v) w'' ∧ Below w'.heap.size w' w'') Q
def StepsRel (P : Program) (l : List Oper) (n : Nat) (R : Nat → (Nat → Value) → World → Prop) (Q : Exit → Act → World → Prop) (a : Act) (w : World) : Nat → List Oper → Prop
  | _, [] => True
  | i, o :: r => StepRel P l n R Q a w i o ∧ StepsRel P l n R Q a w (i + 1) r
theorem StepsRel.at {P : Program} {l : List Oper} {n : Nat} {R : Nat → (Nat → Value) → World → Prop} {Q : Exit → Act → World → Prop} {a : Act} {w : World} : ∀ {r : List Oper} {k : Nat}, StepsRel P l n R Q a w k r → ∀ {j : Nat} {o : Oper}, r[j]? = some o → StepRel P l n R Q a w (k + j) o
  | [], _, _, _, _, h => by simp at h
  | x :: r, k, h, 0, o, hj => by
    simp at hj
    subst hj
    exact h.1
  | x :: r, k, h, j + 1, o, hj => by
    have := StepsRel.at h.2 (j := j) (o := o) (by simpa using hj)
    rwa [show k + 1 + j = k + (j + 1) by omega] at this

def heads (m n : Nat) : Array Bool := Array.replicate n true ++ Array.replicate (m - n) false
/-- The first n operations hang on earlier ones alone, wait for no guard, write each a slot of its own; the rest come behind them in a row. -/
def relB (l : List Oper) (n : Nat) : Bool :=
  (decide (n = l.length) || (decide (n < l.length) && Region.sinkB .any l.toArray n && Region.chainB .any l.toArray n)) && Region.seqB .any l.toArray (l.length - n) n (heads l.length n) &&
  (l.take n).all (fun o => o.guard.isNone) && decide ((l.take n).filterMap (·.dst)).Nodup && (List.range n).all fun i => ((l[i]?).map fun o => o.after.all fun e => !Region.binds .any e || decide (e.on < i)).getD true

def unl (listed : Array Bool) (n : Nat) : Nat := (List.range n).countP fun i => !listed.getD i true
theorem getD_set_self {listed : Array Bool} {i : Nat} (d : Bool) (hs : i < listed.size) : (listed.setIfInBounds i true).getD i d = true := by simp [Array.getD, hs]
theorem lt_of_unl {listed : Array Bool} {i : Nat} (hi : listed.getD i true = false) : i < listed.size := by
  rcases Nat.lt_or_ge i listed.size with h | h
  · exact h
  · simp [Array.getElem?_eq_none h] at hi
theorem unl_set {listed : Array Bool} {i : Nat} (hi : listed.getD i true = false) : ∀ n, unl (listed.setIfInBounds i true) n + (if i < n then 1 else 0) = unl listed n := by
  have hs := lt_of_unl hi
  intro n
  induction n with
  | zero => simp [unl]
  | succ n ih =>
    unfold unl at ih ⊢
    rw [List.range_succ, List.countP_append, List.countP_append]
    by_cases h : i = n
    · subst h
      rw [if_neg (by omega)] at ih
      rw [if_pos (by omega)]
      simp only [List.countP_singleton, hi, getD_set_self true hs, Bool.not_true, Bool.not_false, Bool.false_eq_true, if_true, if_false]
      omega
    · have e : (List.countP (fun j => !(listed.setIfInBounds i true).getD j true) [n]) = List.countP (fun j => !listed.getD j true) [n] := by
        simp only [List.countP_singleton, getD_set_ne true h]
      rw [e]
      by_cases hlt : i < n
      · rw [if_pos hlt] at ih
        rw [if_pos (by omega)]
        omega
      · rw [if_neg hlt] at ih
        rw [if_neg (by omega)]
        omega
theorem unl_zero {listed : Array Bool} {n : Nat} (h : unl listed n = 0) {i : Nat} (hi : i < n) : listed.getD i true = true := by
  unfold unl at h
  rw [List.countP_eq_zero] at h
  have := h i (List.mem_range.2 hi)
  simpa using this
theorem unl_pos {listed : Array Bool} {n : Nat} (h : 0 < unl listed n) : ∃ i, i < n ∧ listed.getD i true = false := by
  unfold unl at h
  rw [List.countP_pos_iff] at h
  obtain ⟨i, hi, hp⟩ := h
  exact ⟨i, List.mem_range.1 hi, by simpa using hp⟩

section
variable {P : Program} {l : List Oper} {n : Nat} {R : Nat → (Nat → Value) → World → Prop} {Q : Exit → Act → World → Prop} {a : Act} {w : World}
theorem dst_mem {i d : Nat} {o : Oper} (hi : l[i]? = some o) (hin : i < n) (hd : o.dst = some d) : d ∈ (l.take n).filterMap (·.dst) := by
  rw [List.mem_filterMap]
  refine ⟨o, ?_, hd⟩
  rw [List.mem_iff_getElem?]
  exact ⟨i, by rw [List.getElem?_take]; simp [hin, hi]⟩
theorem dst_ne {i j d d' : Nat} {o o' : Oper} (hn : ((l.take n).filterMap (·.dst)).Nodup) (hi : l[i]? = some o) (hin : i < n) (hd : o.dst = some d) (hj : l[j]? = some o') (hjn : j < n) (hd' : o'.dst = some d') (hne : i ≠ j) : d ≠ d' := by
  intro e
  subst e
  have key : ∀ (l : List Oper), (l.filterMap (·.dst)).Nodup → ∀ (i j : Nat) (o o' : Oper), l[i]? = some o → l[j]? = some o' → o.dst = some d → o'.dst = some d → i < j → False := by
    intro l
    induction l with
    | nil => intro _ i j o o' h; simp at h
    | cons x l ih =>
      intro hn i j o o' hi hj hd hd' hlt
      have hnl : (l.filterMap (·.dst)).Nodup := by
        cases hx : x.dst with
        | none => rw [List.filterMap_cons_none hx] at hn; exact hn
        | some y => rw [List.filterMap_cons_some hx] at hn; exact (List.nodup_cons.1 hn).2
      cases i with
      | zero =>
        simp at hi
        subst hi
        rw [List.filterMap_cons_some hd] at hn
        obtain ⟨j, rfl⟩ : ∃ k, j = k + 1 := ⟨j - 1, by omega⟩
        refine (List.nodup_cons.1 hn).1 ?_
        rw [List.mem_filterMap]
        exact ⟨o', List.mem_of_getElem? (by simpa using hj), hd'⟩
      | succ i =>
        obtain ⟨j, rfl⟩ : ∃ k, j = k + 1 := ⟨j - 1, by omega⟩
        exact ih hnl i j o o' (by simpa using hi) (by simpa using hj) hd hd' (by omega)
  have hi' : (l.take n)[i]? = some o := by rw [List.getElem?_take]; simp [hin, hi]
  have hj' : (l.take n)[j]? = some o' := by rw [List.getElem?_take]; simp [hjn, hj]
  rcases Nat.lt_or_gt_of_ne hne with h | h
  · exact key _ hn i j o o' hi' hj' hd hd' h
  · exact key _ hn j i o' o hj' hi' hd' hd h

theorem rel_run (hle : n ≤ l.length) (hwait : ∀ listed, HeadInv .any l.toArray n listed → ∀ i, i < n → listed.getD i true = false → ∀ t, n ≤ t → t ∉ Region.ready .any l.toArray listed) (hseq : Region.seqB .any l.toArray (l.length - n) n (heads l.length n) = true)
    (hg : ∀ i o, i < n → l[i]? = some o → o.guard = none) (hnd : ((l.take n).filterMap (·.dst)).Nodup) (hback : ∀ i o, i < n → l[i]? = some o → ∀ e ∈ o.after, Region.binds .any e = true → e.on < i)
    (hst : ∀ i g w1 w2, R i g w1 → Below w1.heap.size w1 w2 → R i g w2) (hsup : ∀ i g g' w, (∀ j o d, Anc l j i → l[j]? = some o → o.dst = some d → g d = g' d) → R i g w → R i g' w) (hsteps : StepsRel P l n R Q a w 0 (l.take n))
    (hend : ∀ f w', Below w.heap.size w w' → (∀ i, i < n → R i f w') → wpList P l.toArray Q (l.drop n) (fillA a (l.take n) f) w') :
    ∀ (k : Nat) (listed : Array Bool) (f : Nat → Value) (w' : World), HeadInv .any l.toArray n listed → unl listed n = k → Below w.heap.size w w' → (∀ i, i < n → listed.getD i false = true → R i f w') →
      wpAny P .any l.toArray Q (k + (l.length - n)) listed (fillA a (l.take n) f) w'
  | 0, listed, f, w', inv, hk, hb, hR => by
    have hsz : listed.size = l.length := by rw [inv.size]; simp
    have he : listed = heads l.length n := by
      apply Array.ext_getElem?
      intro i
      unfold heads
      rw [Array.getElem?_append]
      simp only [Array.size_replicate]
      by_cases hi : i < n
      · rw [if_pos hi]
        have h1 := unl_zero hk hi
        have h2 : i < listed.size := by omega
        simp [hi, h2, Array.getD] at h1 ⊢
        exact h1
      · rw [if_neg hi]
        by_cases hl : i < l.length
        · have h1 := inv.tail i (by omega) (by simpa using hl)
          have h2 : i < listed.size := by omega
          have h3 : i - n < l.length - n := by omega
          simp [h2, h3, Array.getD] at h1 ⊢
          exact h1
        · rw [Array.getElem?_eq_none (by omega), Array.getElem?_eq_none (by simp; omega)]
    have hd : l.length - n = (l.drop n).length := by simp
    rw [Nat.zero_add, hd]
    refine wpAny_of_seq (l.drop n) n listed _ w' (fun j => by simp [List.getElem?_drop]) (by rw [he, ← hd]; exact hseq) (hend f w' hb fun i hin => hR i hin ?_)
    have h1 := unl_zero hk hin
    have h2 : i < listed.size := by omega
    simp [h2, Array.getD] at h1 ⊢
    exact h1
  | k + 1, listed, f, w', inv, hk, hb, hR => by
    have hsz : listed.size = l.length := by rw [inv.size]; simp
    obtain ⟨i0, hi0, hu0⟩ := unl_pos (show 0 < unl listed n by omega)
    have hne : ∀ i, i < n → listed.getD i true = false → Region.ready .any l.toArray listed ≠ [] := by
      intro i
      induction i using Nat.strongRecOn with
      | _ i ih =>
        intro hin hu
        have hil : i < l.length := by omega
        by_cases hall : ∀ e ∈ (l[i]).after, Region.binds .any e = true → listed.getD e.on false = true
        · have : i ∈ Region.ready .any l.toArray listed := mem_ready.2 ⟨hu, l[i], by simp [hil], hall⟩
          intro h0
          rw [h0] at this
          cases this
        · simp only [Classical.not_forall] at hall
          obtain ⟨e, he, hbd, hno⟩ := hall
          have hlt := hback i l[i] hin (by simp [hil]) e he hbd
          exact ih e.on hlt (by omega) (getD_in (by omega) (by simpa using hno))
    rw [show k + 1 + (l.length - n) = (k + (l.length - n)) + 1 by omega]
    refine ⟨fun h0 => absurd h0 (hne i0 hi0 hu0), fun i hi => ?_⟩
    have hin : i < n := by
      rcases Nat.lt_or_ge i n with h | h
      · exact h
      · exact absurd hi (hwait listed inv i0 hi0 hu0 i h)
    obtain ⟨hu, o, ho, hall⟩ := mem_ready.1 hi
    have ho' : l[i]? = some o := by simpa using ho
    have hgd := hg i o hin ho'
    have hstep := hsteps.at (j := i) (o := o) (by rw [List.getElem?_take]; simp [hin, ho'])
    rw [Nat.zero_add] at hstep
    have h1 := hstep f w' hb fun e he hbd hen => hR e.on hen (hall e he hbd)
    unfold wpOp
    simp only [ho]
    rw [if_pos (by simp [Region.wanted, hgd])]
    refine .inl (Oper.wp_mono ?_ h1)
    rintro a' w'' ⟨v, rfl, hv, hbw⟩
    have hcount : unl (listed.setIfInBounds i true) n = k := by
      have := unl_set hu n
      rw [if_pos hin] at this
      omega
    have hb2 := hb.trans (hbw.mono hb.size)
    have hanc : ∀ j k, Anc l j k → k < n → listed.getD k false = true → j < n ∧ listed.getD j false = true := by
      intro j k h
      induction h with
      | self => exact fun h1 h2 => ⟨h1, h2⟩
      | back ho he hbd hon _ ih =>
        intro h1 h2
        subst hon
        have := hback _ _ h1 ho _ he hbd
        exact ih (by omega) (inv.closed _ _ (by simpa using ho) h2 _ he hbd)
    have hfin : (fillA a (l.take n) f).put o.dst v = fillA a (l.take n) (updO f o.dst v) := by
      cases hdst : o.dst with
      | none => rfl
      | some d0 =>
        unfold fillA Act.put updO
        simp only
        rw [fillT_put (dst_mem ho' hin hdst)]
    rw [hfin]
    refine rel_run hle hwait hseq hg hnd hback hst hsup hsteps hend k _ (updO f o.dst v) w'' (inv.set hi hin) hcount hb2 fun j hjn hl => ?_
    by_cases hij : i = j
    · subst hij
      exact hv
    · rw [getD_set_ne false hij] at hl
      refine hsup j f _ _ (fun j' oj d haj hoj hd => ?_) (hst _ _ _ _ (hR j hjn hl) hbw)
      obtain ⟨hjn', hlj'⟩ := hanc _ _ haj hjn hl
      cases hdst : o.dst with
      | none => rfl
      | some d0 =>
        have hne : i ≠ j' := fun e => by
          subst e
          rw [getD_both hu] at hlj'
          cases hlj'
        have hdd := dst_ne hnd ho' hin hdst hoj hjn' hd hne
        unfold updO upd
        simp only
        rw [if_neg (fun e => hdd e.symm)]

theorem wp_region_rel (n : Nat) (R : Nat → (Nat → Value) → World → Prop) {id : Nat} (hm : P.follows .mixedOrders = true) (hB : relB l n = true) (hst : ∀ i g w1 w2, R i g w1 → Below w1.heap.size w1 w2 → R i g w2)
    (hsup : ∀ i g g' w, (∀ j o d, Anc l j i → l[j]? = some o → o.dst = some d → g d = g' d) → R i g w → R i g' w) (hsteps : StepsRel P l n R Q a w 0 (l.take n))
    (hend : ∀ f w', Below w.heap.size w w' → (∀ i, i < n → R i f w') → wpList P l.toArray Q (l.drop n) (fillA a (l.take n) f) w') : (Code.region id l.toArray true).wp P Q a w := by
  simp only [relB, Bool.and_eq_true, Bool.or_eq_true, decide_eq_true_eq, List.all_eq_true] at hB
  obtain ⟨⟨⟨⟨hw, hseq⟩, hg⟩, hnd⟩, hback⟩ := hB
  have hle : n ≤ l.length := by rcases hw with h | h <;> omega
  have hat : ∀ i o, i < n → l[i]? = some o → o ∈ l.take n := fun i o hin hi => by
    rw [List.mem_iff_getElem?]
    exact ⟨i, by rw [List.getElem?_take]; simp [hin, hi]⟩
  refine wp_region_any hm ?_
  have H := rel_run (P := P) (Q := Q) (a := a) (w := w) hle ?_ hseq (fun i o hin hi => by simpa using hg o (hat i o hin hi)) hnd ?_ hst hsup hsteps hend n (Array.replicate l.toArray.size false) (fun d => a.tmps.getD d undef) w.drew
    ⟨by simp, fun j oj _ hl => (by rw [getD_replicate_false] at hl; cases hl), fun t _ ht => getD_in (by simpa using ht) (getD_replicate_false _ _)⟩ ?_ (Below.refl _ _).drew (fun i _ hl => by rw [getD_replicate_false] at hl; cases hl)
  · have e : fillA a (l.take n) (fun d => a.tmps.getD d undef) = a := by
      unfold fillA
      rw [fillT_self]
    rw [e] at H
    have hs : n + (l.length - n) = l.toArray.size := by simp; omega
    rw [hs] at H
    exact H
  · intro listed inv i hin hu t ht hr
    rcases hw with h | ⟨⟨h1, h2⟩, h3⟩
    · obtain ⟨_, o, ho, _⟩ := mem_ready.1 hr
      have := (Array.getElem?_eq_some_iff.1 ho).1
      simp at this
      omega
    · exact tail_waits h2 h3 (by simpa using h1) inv (n - i) i rfl hin hu t ht hr
  · intro i o hin hi e he hbd
    have := hback i (List.mem_range.2 hin)
    rw [hi] at this
    simp only [Option.map_some, Option.getD_some, Array.all_eq_true_iff_forall_mem, Bool.or_eq_true, Bool.not_eq_true', decide_eq_true_eq] at this
    rcases this e he with h | h
    · rw [h] at hbd; cases hbd
    · exact h
  · have key : ∀ m, m ≤ l.length → unl (Array.replicate l.toArray.size false) m = m := by
      intro m
      induction m with
      | zero => intro _; rfl
      | succ m ih =>
        intro hm
        have := ih (by omega)
        unfold unl at this ⊢
        have hml : m < l.length := by omega
        rw [List.range_succ, List.countP_append, this]
        simp [hml]
    exact key n hle
/-- What an operand is, by the slots. -/
def evL (g : Nat → Value) : Operand → Value
  | .tmp t => g t
  | .const v => v
  | .global b => .pointer (some ⟨b, 0, none⟩)
  | .func f => .func (.func f) #[] #[]
theorem evL_eval (a : Act) : a.eval = evL (fun d => a.tmps.getD d undef) := by
  funext x
  cases x <;> rfl
def OpRel (P : Program) (o : Oper) (ev : Operand → Value) (w : World) (K : Value → World → Prop) : Prop :=
  match (execOp ev o).run P w with
  | .ok (.value v) w' => K v w'
  | .ok .skip w' => K undef w'
  | .ok (.enter f args) w' => Calls P f args w' fun e w'' => ∃ v, e = .returned v ∧ K v w''
  | _ => False
theorem OpRel.wp {P : Program} {o : Oper} {a : Act} {w : World} {K : Value → World → Prop} {Q : Exit → Act → World → Prop} (h : OpRel P o a.eval w K) : o.wp P a w (fun a' w' => ∃ v, a' = a.put o.dst v ∧ K v w') Q := by
  unfold OpRel at h
  unfold Oper.wp
  generalize (execOp a.eval o).run P w = r at *
  cases r with
  | ok n w' =>
    cases n <;> simp only [Oper.upon] at h ⊢
    case value v => exact ⟨v, rfl, h⟩
    case skip => exact ⟨undef, rfl, h⟩
    case enter f args =>
      refine h.mono ?_
      rintro e w'' ⟨v, rfl, hk⟩
      exact ⟨v, rfl, hk⟩
    all_goals exact h.elim
  | halt x w' => exact (h : False).elim
theorem StepRel.of {i : Nat} {o : Oper} (hin : l[i]? = some o) (hi : i < n) (hB : relB l n = true) (hsz : ((l.take n).filterMap (·.dst)).all (fun d => decide (d < a.tmps.size)) = true)
    (hsup : ∀ i g g' w, (∀ j o d, Anc l j i → l[j]? = some o → o.dst = some d → g d = g' d) → R i g w → R i g' w)
    (h : ∀ (g : Nat → Value) w', Below w.heap.size w w' → (∀ d, ((l.take n).filterMap (·.dst)).contains d = false → g d = a.tmps.getD d undef) → Deps n R g w' o → OpRel P o (evL g) w' fun v w'' => R i (updO g o.dst v) w'' ∧ Below w'.heap.size w' w'') :
    StepRel P l n R Q a w i o := by
  simp only [relB, Bool.and_eq_true, Bool.or_eq_true, decide_eq_true_eq, List.all_eq_true] at hB
  obtain ⟨_, hback⟩ := hB
  have hback' : ∀ k oe, k < n → l[k]? = some oe → ∀ e ∈ oe.after, Region.binds .any e = true → e.on < k := fun k oe hk hoe e he hbd => by
    have := hback k (List.mem_range.2 hk)
    rw [hoe] at this
    simp only [Option.map_some, Option.getD_some, Array.all_eq_true_iff_forall_mem, Bool.or_eq_true, Bool.not_eq_true', decide_eq_true_eq] at this
    rcases this e he with h | h
    · rw [h] at hbd; cases hbd
    · exact h
  have hanc : ∀ j k, Anc l j k → k < n → j < n := by
    intro j k h
    induction h with
    | self => exact id
    | back ho he hbd hon _ ih =>
      intro h1
      subst hon
      have := hback' _ _ h1 ho _ he hbd
      exact ih (by omega)
  have hsz' : ∀ d ∈ (l.take n).filterMap (·.dst), d < a.tmps.size := fun d hd => by
    have := List.all_eq_true.1 hsz d hd
    simpa using this
  intro f w' hb hd
  have hg : ∀ d ∈ (l.take n).filterMap (·.dst), (fillA a (l.take n) f).tmps.getD d undef = f d := fun d hd => by
    have h1 := fillT_get ((l.take n).filterMap (·.dst)) f a.tmps d
    rw [if_pos (hsz' d hd), if_pos hd] at h1
    unfold fillA
    simp only [Array.getD_eq_getD_getElem?, h1, Option.getD_some]
  have ho : ∀ d, ((l.take n).filterMap (·.dst)).contains d = false → (fillA a (l.take n) f).tmps.getD d undef = a.tmps.getD d undef := fun d hd => by
    have h1 := fillT_get ((l.take n).filterMap (·.dst)) f a.tmps d
    have h2 : d ∉ (l.take n).filterMap (·.dst) := by simpa using hd
    rw [if_neg h2] at h1
    unfold fillA
    simp only [Array.getD_eq_getD_getElem?, h1]
    by_cases hl : d < a.tmps.size
    · rw [if_pos hl]
    · rw [if_neg hl, Array.getElem?_eq_none (Nat.le_of_not_lt hl)]
  have key := h (fun d => (fillA a (l.take n) f).tmps.getD d undef) w' hb ho (fun e he hbd hen => hsup e.on f _ _ (fun j oj d haj hoj hdj => (hg d (dst_mem hoj (hanc _ _ haj hen) hdj)).symm) (hd e he hbd hen))
  rw [← evL_eval] at key
  refine Oper.wp_mono ?_ key.wp
  rintro a' w'' ⟨v, rfl, hr, hbw⟩
  refine ⟨v, rfl, hsup i _ _ _ (fun j oj d haj hoj hdj => ?_) hr, hbw⟩
  have hjn := hanc _ _ haj hi
  have hmem := dst_mem hoj hjn hdj
  cases hdst : o.dst with
  | none => exact hg d hmem
  | some d0 =>
    unfold updO upd
    simp only
    split
    · rfl
    · exact hg d hmem

abbrev RelP := (Nat → Value) → World → Prop
def atR (Rs : List RelP) (i : Nat) : RelP := Rs.getD i (fun _ _ => True)
def AllR : List RelP → (Nat → Value) → World → Prop
  | [], _, _ => True
  | p :: r, g, w => p g w ∧ AllR r g w
/-- One operation: what it says stays, hangs on what came before it alone, and comes. -/
def OpOK (P : Program) (l : List Oper) (n : Nat) (Rs : List RelP) (a : Act) (w : World) (i : Nat) (o : Oper) (p : RelP) : Prop :=
  (∀ g w1 w2, p g w1 → Below w1.heap.size w1 w2 → p g w2) ∧ (∀ g g' w, (∀ j o d, Anc l j i → l[j]? = some o → o.dst = some d → g d = g' d) → p g w → p g' w) ∧
  ∀ g w', Below w.heap.size w w' → (∀ d, ((l.take n).filterMap (·.dst)).contains d = false → g d = a.tmps.getD d undef) → Deps n (atR Rs) g w' o → OpRel P o (evL g) w' fun v w'' => p (updO g o.dst v) w'' ∧ Below w'.heap.size w' w''
def OpsOK (P : Program) (l : List Oper) (n : Nat) (Rs : List RelP) (a : Act) (w : World) : Nat → List Oper → List RelP → Prop
  | _, [], _ => True
  | _, _ :: _, [] => False
  | i, o :: r, p :: ps => OpOK P l n Rs a w i o p ∧ OpsOK P l n Rs a w (i + 1) r ps
theorem OpsOK.at {Rs : List RelP} : ∀ {r : List Oper} {ps : List RelP} {k : Nat}, OpsOK P l n Rs a w k r ps → ∀ {j : Nat} {o : Oper}, r[j]? = some o → OpOK P l n Rs a w (k + j) o (ps.getD j (fun _ _ => True))
  | [], _, _, _, _, _, h => by simp at h
  | _ :: _, [], _, h, _, _, _ => h.elim
  | x :: r, p :: ps, k, h, 0, o, hj => by
    simp at hj
    subst hj
    exact h.1
  | x :: r, p :: ps, k, h, j + 1, o, hj => by
    have := OpsOK.at h.2 (j := j) (o := o) (by simpa using hj)
    rw [show k + 1 + j = k + (j + 1) by omega] at this
    simpa using this
theorem AllR.of {Rs : List RelP} {g : Nat → Value} {w : World} (h : ∀ i, i < Rs.length → atR Rs i g w) : AllR Rs g w := by
  induction Rs with
  | nil => trivial
  | cons p r ih => exact ⟨h 0 (by simp), ih fun i hi => h (i + 1) (by simp; omega)⟩
theorem wp_region_ops (n : Nat) (Rs : List RelP) {id : Nat} (hm : P.follows .mixedOrders = true) (hB : relB l n = true) (hn : Rs.length = n) (hsz : ((l.take n).filterMap (·.dst)).all (fun d => decide (d < a.tmps.size)) = true)
    (hops : OpsOK P l n Rs a w 0 (l.take n) Rs) (hend : ∀ f w', Below w.heap.size w w' → AllR Rs f w' → wpList P l.toArray Q (l.drop n) (fillA a (l.take n) f) w') : (Code.region id l.toArray true).wp P Q a w := by
  have hle : n ≤ l.length := by
    have := hB
    simp only [relB, Bool.and_eq_true, Bool.or_eq_true, decide_eq_true_eq] at this
    rcases this.1.1.1.1 with h | h <;> omega
  have hat : ∀ i, i < n → ∃ o, l[i]? = some o ∧ OpOK P l n Rs a w i o (atR Rs i) := fun i hi => by
    have hil : i < l.length := by omega
    refine ⟨l[i], by simp [hil], ?_⟩
    have := hops.at (j := i) (o := l[i]) (by rw [List.getElem?_take]; simp [hi, hil])
    rwa [Nat.zero_add] at this
  have hst : ∀ i g w1 w2, atR Rs i g w1 → Below w1.heap.size w1 w2 → atR Rs i g w2 := fun i g w1 w2 h hb => by
    by_cases hi : i < n
    · obtain ⟨o, _, h1, _⟩ := hat i hi
      exact h1 g w1 w2 h hb
    · unfold atR
      rw [List.getD_eq_getElem?_getD, List.getElem?_eq_none (by omega)]
      trivial
  have hsup : ∀ i g g' w, (∀ j o d, Anc l j i → l[j]? = some o → o.dst = some d → g d = g' d) → atR Rs i g w → atR Rs i g' w := fun i g g' w1 he h => by
    by_cases hi : i < n
    · obtain ⟨o, _, _, h2, _⟩ := hat i hi
      exact h2 g g' w1 he h
    · unfold atR
      rw [List.getD_eq_getElem?_getD, List.getElem?_eq_none (by omega)]
      trivial
  refine wp_region_rel n (atR Rs) hm hB hst hsup ?_ (fun f w' hb hR => hend f w' hb (AllR.of fun i hi => hR i (by omega)))
  have key : ∀ (r : List Oper) (k : Nat), (∀ j o, r[j]? = some o → k + j < n ∧ l[k + j]? = some o) → StepsRel P l n (atR Rs) Q a w k r := by
    intro r
    induction r with
    | nil => intro _ _; trivial
    | cons x r ih =>
      intro k h
      obtain ⟨hk, hx⟩ := h 0 x (by simp)
      rw [Nat.add_zero] at hk hx
      obtain ⟨o, ho, _, _, h3⟩ := hat k hk
      rw [hx] at ho
      injection ho with ho
      subst ho
      exact ⟨StepRel.of hx hk hB hsz hsup h3, ih (k + 1) fun j o hj => by
        have := h (j + 1) o (by simpa using hj)
        rwa [show k + (j + 1) = k + 1 + j by omega] at this⟩
  exact key _ 0 fun j o hj => by
    rw [List.getElem?_take] at hj
    by_cases h : j < n
    · rw [if_pos h] at hj
      exact ⟨by omega, by simpa using hj⟩
    · rw [if_neg h] at hj
      cases hj

theorem OpsOK.nil {Rs : List RelP} {i : Nat} {ps : List RelP} : OpsOK P l n Rs a w i [] ps := by cases ps <;> trivial
theorem OpsOK.cons {Rs : List RelP} {i : Nat} {o : Oper} {r : List Oper} {p : RelP} {ps : List RelP} (h : OpOK P l n Rs a w i o p) (h' : OpsOK P l n Rs a w (i + 1) r ps) : OpsOK P l n Rs a w i (o :: r) (p :: ps) := ⟨h, h'⟩
/-- An operation whose value is known. -/
theorem OpOK.val {Rs : List RelP} {i d : Nat} {o : Oper} {c : Value} (hi : l[i]? = some o) (ho : o.dst = some d)
    (h : ∀ g w', Below w.heap.size w w' → (∀ d, ((l.take n).filterMap (·.dst)).contains d = false → g d = a.tmps.getD d undef) → Deps n (atR Rs) g w' o → (execOp (evL g) o).run P w' = .ok (.value c) w') :
    OpOK P l n Rs a w i o (fun g _ => g d = c) := by
  refine ⟨fun _ _ _ h _ => h, fun g g' _ he h => (he i o d (Anc.self i) hi ho).symm.trans h, fun g w' hb hout hd => ?_⟩
  unfold OpRel
  rw [h g w' hb hout hd]
  refine ⟨?_, Below.refl _ _⟩
  rw [ho]
  unfold updO upd
  simp
/-- An operation of whose value something is known, by itself. -/
theorem OpOK.one {Rs : List RelP} {i d : Nat} {o : Oper} {p : Value → World → Prop} (hi : l[i]? = some o) (ho : o.dst = some d) (hst : ∀ v w1 w2, p v w1 → Below w1.heap.size w1 w2 → p v w2)
    (h : ∀ g w', Below w.heap.size w w' → (∀ d, ((l.take n).filterMap (·.dst)).contains d = false → g d = a.tmps.getD d undef) → Deps n (atR Rs) g w' o → OpRel P o (evL g) w' fun v w'' => p v w'' ∧ Below w'.heap.size w' w'') :
    OpOK P l n Rs a w i o (fun g w => p (g d) w) := by
  refine ⟨fun g w1 w2 h hb => hst _ _ _ h hb, fun g g' w1 he h => ?_, fun g w' hb hout hd => ?_⟩
  · show p (g' d) w1
    rw [← he i o d (Anc.self i) hi ho]
    exact h
  · have := h g w' hb hout hd
    rw [ho]
    have e : ∀ v, updO g (some d) v d = v := fun v => by unfold updO upd; simp
    simpa only [e] using this
theorem evL_tmp (g : Nat → Value) (t : Nat) : evL g (.tmp t) = g t := rfl
theorem evL_const (g : Nat → Value) (v : Value) : evL g (.const v) = v := rfl
theorem evL_func (g : Nat → Value) (f : FuncId) : evL g (.func f) = .func (.func f) #[] #[] := rfl
end
end Wh
namespace Wh
open Go Go.RowKit Go.Proofs
/-- The box that a state lies in. -/
def BoxAt (w : World) (b : Nat) (V : SV) : Prop := w.heap[b]? = some (.cells V.cells.toArray 31 (0, 0))
theorem BoxAt.lt {w : World} {b : Nat} {V : SV} (h : BoxAt w b V) : b < w.heap.size := (Array.getElem?_eq_some_iff.1 h).1
theorem BoxAt.blk {w : World} {b : Nat} {V : SV} (h : BoxAt w b V) : Blk w b 31 V.cells := h
theorem BoxAt.below {w w' : World} {b B : Nat} {V : SV} (h : BoxAt w b V) (hb : Below B w w') (hB : b < B) : BoxAt w' b V := (hb.block b hB).trans h
theorem BoxAt.grown {w w' : World} {b : Nat} {V : SV} {row : Option Nat} (h : BoxAt w b V) (hg : w.grownBy w' row) (hne : some b ≠ row) : BoxAt w' b V := (hg.block b h.lt hne).trans h
theorem BoxAt.cells {w : World} {b : Nat} {V : SV} (h : BoxAt w b V) : w.cell? ⟨b, 0, none⟩ = some V.on ∧ w.cell? ⟨b, 1, none⟩ = some V.orders ∧ w.cell? ⟨b, 2, none⟩ = some V.holds ∧ w.cell? ⟨b, 3, none⟩ = some V.moves ∧
    w.cell? ⟨b, 4, none⟩ = some V.inn ∧ w.cell? ⟨b, 5, none⟩ = some V.out ∧ w.cell? ⟨b, 6, none⟩ = some V.fixed :=
  ⟨h.blk.cell rfl, h.blk.cell rfl, h.blk.cell rfl, h.blk.cell rfl, h.blk.cell rfl, h.blk.cell rfl, h.blk.cell rfl⟩
theorem BoxAt.frozen {w : World} {b : Nat} {V : SV} (h : BoxAt w b V) (o : Nat) : w.frozen? ⟨b, o, none⟩ = false := h.blk.frozen o
theorem set_row {w : World} {g : Nat} {e : TypeId} {cur : List Value} (h : Blk w g e cur) (j : Nat) (u : Value) : Blk (w.setCell ⟨g, j, none⟩ u) g e (cur.set j u) ∧ w.grownBy (w.setCell ⟨g, j, none⟩ u) (some g) := by
  unfold Blk at h
  have hl := (Array.getElem?_eq_some_iff.1 h).1
  constructor
  · unfold Blk World.setCell
    simp [Array.getElem?_modify, h]
  · refine ⟨rfl, rfl, rfl, by simp [World.setCell], fun k hk hne => ?_⟩
    unfold World.setCell
    simp only
    rw [Array.getElem?_modify]
    rw [if_neg (fun e => hne (by rw [e]))]
theorem BoxAt.setOn {w : World} {b : Nat} {V : SV} (h : BoxAt w b V) (u : Value) : BoxAt (w.setCell ⟨b, 0, none⟩ u) b { V with on := u } := (set_row h.blk 0 u).1
/-- A state stored into its box. -/
theorem wpList_store_state {ops : Array Oper} {rest : List Oper} {o : Oper} {a : Act} {w : World} {Q : Exit → Act → World → Prop} (hgd : o.guard = none) (x y : Operand) (ho : o.op = .store 31 x y) (hn : o.dst = none) (b : Nat) (V V' : SV)
    (hbox : BoxAt w b V) (hx : a.eval x = .pointer (some ⟨b, 0, none⟩)) (hy : a.eval y = V'.val) (h1 : V'.cells.all (fun u => u.oneCell') = true)
    (h : ∀ w', BoxAt w' b V' → w.grownBy w' (some b) → wpList Try.prog ops Q rest a w') : wpList Try.prog ops Q (o :: rest) a w :=
  wpList_plain hgd fun K hK => by
    refine wp_store_row (P := Try.prog) 31 x y ho b V'.cells.toArray hx hy 31 V.cells.toArray hbox (by kernel_rfl) rfl (by simpa using h1) ?_
    rw [hn]
    exact hK _ _ (h _ (hbox.blk.row V'.cells) (grown_row w b V'.cells.toArray))
theorem Own.notBox {α : Type} {enc : α → List Value} {size : Nat} {e : TypeId} {w : World} {base : Nat} {v : Value} {l : List α} (h : Own enc size e w base v l) {b : Nat} {t : TypeId} {cur : List Value} (hb : Blk w b t cur) (hne : e ≠ t) :
    v.ownBlock = none ∨ v.ownBlock ≠ some b := by
  cases hv : v.ownBlock with
  | none => exact .inl rfl
  | some g =>
    refine .inr fun he => ?_
    injection he with he
    subst he
    obtain ⟨c1, h1⟩ := h.block hv
    unfold Blk at hb
    rw [h1] at hb
    injection hb with h2
    injection h2 with _ h3
    exact hne h3
namespace OwnSt
variable {w w' : World} {base : Nat} {V : SV} {s : State}
/-- A block of another type was written. -/
theorem keptBy (h : OwnSt w base V s) {b : Nat} {t : TypeId} {cur : List Value} (hg : w.grownBy w' (some b)) (hb : Blk w b t cur) (h1 : 23 ≠ t) (h2 : 3 ≠ t) (h3 : 73 ≠ t) (h4 : 75 ≠ t) (h5 : 87 ≠ t) (h6 : 92 ≠ t) : OwnSt w' base V s :=
  ⟨h.on.kept hg (h.on.notBox hb h1), h.rlen, fun b hlt => (h.row b hlt).kept hg ((h.row b hlt).notBox hb h2), h.orders.kept hg (h.orders.notBox hb h3), h.llen, fun o ho => (h.line o ho).kept hg ((h.line o ho).notBox hb h4),
    h.holds.kept hg (h.holds.notBox hb h5), h.moves.kept hg (h.moves.notBox hb h6), h.inn.kept hg (h.inn.notBox hb h2), h.out.kept hg (h.out.notBox hb h2), h.fixed.kept hg (h.fixed.notBox hb h2), h.apart, h.apartl⟩
theorem box (h : OwnSt w base V s) {b : Nat} {V' : SV} (hb : BoxAt w b V') (j : Nat) (u : Value) : OwnSt (w.setCell ⟨b, j, none⟩ u) base V s :=
  h.keptBy (set_row hb.blk j u).2 hb.blk (by decide) (by decide) (by decide) (by decide) (by decide) (by decide)
end OwnSt
section
variable {P : Program}
end
/-- The sums' slices, made one behind the other: none in a block of the rows, nor of another. -/
def NumsI (w : World) (B : Nat) (on : List (List Int)) (inn : List Int) (vO vI : Value) : Prop := ∃ gs, OwnOn 23 3 w B vO on gs ∧ Own cInt 1 3 w B vI inn ∧ ∀ x ∈ gs, vI.ownBlock ≠ some x
def NumsU (w : World) (B : Nat) (on : List (List Int)) (inn out : List Int) (vO vI vU : Value) : Prop := ∃ gs, OwnOn 23 3 w B vO on gs ∧ (Own cInt 1 3 w B vI inn ∧ ∀ x ∈ gs, vI.ownBlock ≠ some x) ∧
  Own cInt 1 3 w B vU out ∧ (∀ x ∈ gs, vU.ownBlock ≠ some x) ∧ ∀ x, vI.ownBlock = some x → vU.ownBlock ≠ some x
def NumsX (w : World) (B : Nat) (on : List (List Int)) (inn out fixed : List Int) (vO vI vU vX : Value) : Prop := ∃ gs, OwnOn 23 3 w B vO on gs ∧ (Own cInt 1 3 w B vI inn ∧ ∀ x ∈ gs, vI.ownBlock ≠ some x) ∧
  (Own cInt 1 3 w B vU out ∧ (∀ x ∈ gs, vU.ownBlock ≠ some x) ∧ ∀ x, vI.ownBlock = some x → vU.ownBlock ≠ some x) ∧
  Own cInt 1 3 w B vX fixed ∧ (∀ x ∈ gs, vX.ownBlock ≠ some x) ∧ (∀ x, vI.ownBlock = some x → vX.ownBlock ≠ some x) ∧ ∀ x, vU.ownBlock = some x → vX.ownBlock ≠ some x
section
variable {w w' : World} {B : Nat} {on : List (List Int)} {inn out fixed : List Int} {vO vI vU vX : Value}
theorem NumsI.below (h : NumsI w B on inn vO vI) (hb : Below w.heap.size w w') : NumsI w' B on inn vO vI := let ⟨gs, h1, h2, h3⟩ := h; ⟨gs, h1.below hb, h2.below hb, h3⟩
theorem NumsU.below (h : NumsU w B on inn out vO vI vU) (hb : Below w.heap.size w w') : NumsU w' B on inn out vO vI vU := let ⟨gs, h1, ⟨h2, h3⟩, h4, h5⟩ := h; ⟨gs, h1.below hb, ⟨h2.below hb, h3⟩, h4.below hb, h5⟩
theorem NumsX.below (h : NumsX w B on inn out fixed vO vI vU vX) (hb : Below w.heap.size w w') : NumsX w' B on inn out fixed vO vI vU vX :=
  let ⟨gs, h1, ⟨h2, h3⟩, ⟨h4, h5⟩, h6, h7⟩ := h
  ⟨gs, h1.below hb, ⟨h2.below hb, h3⟩, ⟨h4.below hb, h5⟩, h6.below hb, h7⟩
theorem fresh_ne {v : Value} {l : List Int} (h : Own cInt 1 3 w' w.heap.size v l) {x : Nat} (hx : x < w.heap.size) : v.ownBlock ≠ some x := fun he => by
  have := (h.size x he).1
  omega
theorem NumsI.of {gs : List Nat} (h : OwnOn 23 3 w B vO on gs) (hB : B ≤ w.heap.size) (hb : Below w.heap.size w w') (hv : Own cInt 1 3 w' w.heap.size vI inn) : NumsI w' B on inn vO vI :=
  ⟨gs, h.below hb, hv.from_ hB, fun _ hx => fresh_ne hv (h.mem hx).2⟩
theorem NumsU.of (h : NumsI w B on inn vO vI) (hB : B ≤ w.heap.size) (hb : Below w.heap.size w w') (hv : Own cInt 1 3 w' w.heap.size vU out) : NumsU w' B on inn out vO vI vU :=
  let ⟨gs, h1, h2, h3⟩ := h
  ⟨gs, h1.below hb, ⟨h2.below hb, h3⟩, hv.from_ hB, fun _ hx => fresh_ne hv (h1.mem hx).2, fun x hx => fresh_ne hv (h2.size x hx).2⟩
theorem NumsX.of (h : NumsU w B on inn out vO vI vU) (hB : B ≤ w.heap.size) (hb : Below w.heap.size w w') (hv : Own cInt 1 3 w' w.heap.size vX fixed) : NumsX w' B on inn out fixed vO vI vU vX :=
  let ⟨gs, h1, ⟨h2, h3⟩, h4, h5, h6⟩ := h
  ⟨gs, h1.below hb, ⟨h2.below hb, h3⟩, ⟨h4.below hb, h5, h6⟩, hv.from_ hB, fun _ hx => fresh_ne hv (h1.mem hx).2, fun x hx => fresh_ne hv (h2.size x hx).2, fun x hx => fresh_ne hv (h4.size x hx).2⟩
theorem OwnOn.isSlice {E2 E1 : TypeId} {gs : List Nat} {v : Value} (h : OwnOn E2 E1 w B v on gs) : ∃ A c, v = .slice A on.length c := by
  obtain ⟨vs, h1, h2, _⟩ := h
  obtain ⟨A, c, e⟩ := h1.isSlice
  exact ⟨A, c, by rw [e, h2]⟩
theorem NumsI.isSlice (h : NumsI w B on inn vO vI) : ∃ A c, vI = .slice A inn.length c := let ⟨_, _, h2, _⟩ := h; h2.isSlice
theorem NumsU.isSlice (h : NumsU w B on inn out vO vI vU) : ∃ A c, vU = .slice A out.length c := let ⟨_, _, _, h4, _⟩ := h; h4.isSlice
theorem NumsX.isSlice (h : NumsX w B on inn out fixed vO vI vU vX) : ∃ A c, vX = .slice A fixed.length c := let ⟨_, _, _, _, h6, _⟩ := h; h6.isSlice
end
end Wh
namespace Wh
theorem range_all {n : Nat} {P : Nat → Bool} : (List.range n).all P = true ↔ ∀ k, k < n → P k = true := by
  rw [List.all_eq_true]
  exact ⟨fun h k hk => h k (List.mem_range.2 hk), fun h k hk => h k (List.mem_range.1 hk)⟩
theorem range_no {n : Nat} {P : Nat → Bool} {k : Nat} (hk : k < n) (h : P k = false) : (List.range n).all P = false := by
  cases ha : (List.range n).all P
  · rfl
  · rw [range_all.1 ha k hk] at h; cases h
theorem summed_iff {p : Plan} {s : State} : summed p s = true ↔ (∀ g, g < p.sizes.length → goodSummed p s g = true) ∧ ∀ o, o < s.orders.length → orderSummed s o = true := by
  unfold summed
  rw [Bool.and_eq_true, range_all, range_all]
theorem summed_good {p : Plan} {s : State} {g : Nat} (hg : g < p.sizes.length) (h : goodSummed p s g = false) : summed p s = false := by
  unfold summed
  rw [range_no hg h, Bool.false_and]
theorem summed_order {p : Plan} {s : State} {o : Nat} (ho : o < s.orders.length) (h : orderSummed s o = false) : summed p s = false := by
  unfold summed
  rw [range_no ho h, Bool.and_false]
theorem goodSummed_iff {p : Plan} {s : State} {g : Nat} : goodSummed p s g = true ↔ sumOf s.on g = intAt s.inn g - intAt s.out g + intAt s.fixed g ∧ ∀ b : Nat, b < p.bins.length → bound s b g ≤ cell s.on b g := by
  unfold goodSummed
  rw [Bool.and_eq_true, range_all]
  simp
theorem goodSummed_sum {p : Plan} {s : State} {g : Nat} (h : sumOf s.on g ≠ intAt s.inn g - intAt s.out g + intAt s.fixed g) : goodSummed p s g = false := by
  cases hq : goodSummed p s g
  · rfl
  · exact absurd (goodSummed_iff.1 hq).1 h
theorem goodSummed_bin {p : Plan} {s : State} {g b : Nat} (hb : b < p.bins.length) (h : cell s.on b g < bound s b g) : goodSummed p s g = false := by
  cases hq : goodSummed p s g
  · rfl
  · have := (goodSummed_iff.1 hq).2 b hb
    omega
theorem orderSummed_iff {s : State} {o : Nat} : orderSummed s o = true ↔ ¬ ((s.order o).kind = 1 ∧ allGot (s.order o) = true) ∧ ∀ k, k < (s.order o).lines.length → lineSummed s o k = true := by
  unfold orderSummed
  rw [Bool.and_eq_true, range_all]
  by_cases h1 : (s.order o).kind = 1 <;> simp [h1]
theorem orderSummed_got {s : State} {o : Nat} (h : (s.order o).kind = 1) (h2 : allGot (s.order o) = true) : orderSummed s o = false := by
  cases hq : orderSummed s o
  · rfl
  · exact absurd ⟨h, h2⟩ (orderSummed_iff.1 hq).1
theorem orderSummed_line {s : State} {o k : Nat} (hk : k < (s.order o).lines.length) (h : lineSummed s o k = false) : orderSummed s o = false := by
  cases hq : orderSummed s o
  · rfl
  · rw [(orderSummed_iff.1 hq).2 k hk] at h
    cases h
theorem allGot_any {p : Plan} {s : State} (h : Sane p s) {o : Nat} (ho : o < s.orders.length) : ((s.order o).lines.any fun x => decide (x.got < x.want)) = !(allGot (s.order o)) := by
  have hl : ∀ x ∈ (s.order o).lines, x.got ≤ x.want := fun x hx => by
    obtain ⟨k, hk, rfl⟩ := List.getElem_of_mem hx
    have := (h.line ho hk).2.2.1.2
    unfold State.line at this
    rwa [lineAt_eq hk] at this
  unfold allGot
  rw [← any_not]
  generalize (s.order o).lines = l at hl
  induction l with
  | nil => rfl
  | cons x l ih =>
    rw [List.any_cons, List.any_cons, ih (fun y hy => hl y (by simp [hy]))]
    congr 1
    have := hl x (by simp)
    rw [Bool.eq_iff_iff]
    simp
    omega
theorem sumsOk_bad {p : Plan} (l : List Int) (lo : Int) (hn : 0 < p.sizes.length) : (l.length ≠ p.sizes.length ∧ sumsOk p l lo = false) ∨ (l.length = p.sizes.length ∧ lowest l < lo ∧ sumsOk p l lo = false) ∨
    (l.length = p.sizes.length ∧ lo ≤ lowest l ∧ 1048576 < greatest l ∧ sumsOk p l lo = false) ∨ (l.length = p.sizes.length ∧ lo ≤ lowest l ∧ greatest l ≤ 1048576 ∧ sumsOk p l lo = true) := by
  by_cases h1 : l.length = p.sizes.length
  · have hp : 0 < l.length := by omega
    have hlo : lo ≤ lowest l ↔ ∀ j, j < l.length → lo ≤ intAt l j := by
      unfold lowest
      rw [le_minTo]
      exact ⟨fun h j hj => h j (by omega), fun h j hj => h j (by omega)⟩
    have hhi : greatest l ≤ 1048576 ↔ ∀ j, j < l.length → intAt l j ≤ 1048576 := by
      unfold greatest
      rw [maxTo_le]
      exact ⟨fun h j hj => h j (by omega), fun h j hj => h j (by omega)⟩
    have hs : sumsOk p l lo = true ↔ lo ≤ lowest l ∧ greatest l ≤ 1048576 := by
      rw [sumsOk_iff, hlo, hhi]
      constructor
      · rintro ⟨_, h⟩
        exact ⟨fun j hj => (within_iff.1 (all_at 0 h hj)).1, fun j hj => (within_iff.1 (all_at 0 h hj)).2⟩
      · rintro ⟨h2, h3⟩
        exact ⟨h1, all_of 0 fun j hj => within_iff.2 ⟨h2 j hj, h3 j hj⟩⟩
    cases hq : sumsOk p l lo
    · rw [hq] at hs
      simp only [Bool.false_eq_true, false_iff] at hs
      simp only [h1, and_true, true_and, ne_eq, not_true_eq_false, false_or, reduceCtorEq, and_false, or_false]
      omega
    · rw [hq] at hs
      simp only [true_iff] at hs
      simp only [h1, and_true, true_and, ne_eq, not_true_eq_false, false_or, reduceCtorEq, and_false]
      omega
  · refine .inl ⟨h1, ?_⟩
    unfold sumsOk
    rw [decide_eq_false h1, Bool.false_and]
end Wh
namespace Wh
open Go Go.RowKit
/-- How far a world is from another: its draws, the blocks behind. -/
structure GB where
  d : Nat
  os : Array Obj
instance : Inhabited GB := ⟨⟨0, #[]⟩⟩

def wld (w : World) (d : Nat) (os : Array Obj) : World := { w with drawn := d, heap := w.heap ++ os }

theorem below_wld (w : World) (d : Nat) (os : Array Obj) : Below w.heap.size w (wld w d os) :=
  ⟨rfl, rfl, rfl, by simp [wld], fun k hk => by simp [wld, Array.getElem?_append_left hk]⟩
theorem wld_of_below {w w' : World} (h : Below w.heap.size w w') : ∃ p : GB, w' = wld w p.d p.os := by
  obtain ⟨h1, h2, h3, h4, h5⟩ := h
  obtain ⟨heap, tape, drawn, os, output⟩ := w'
  refine ⟨⟨drawn, heap.extract w.heap.size heap.size⟩, ?_⟩
  simp only at h1 h2 h3 h4 h5
  subst h1 h2 h3
  unfold wld
  congr 1
  apply Array.ext_getElem?
  intro k
  by_cases hk : k < w.heap.size
  · rw [h5 k hk, Array.getElem?_append_left hk]
  · rw [Array.getElem?_append_right (by omega)]
    simp only [Array.getElem?_extract]
    by_cases hl : k < heap.size
    · rw [if_pos (by omega)]
      congr 1
      omega
    · rw [if_neg (by omega), Array.getElem?_eq_none (by omega)]
theorem cells_wld {w : World} {b : Nat} (hb : b < w.heap.size) (o : Nat) (d : Nat) (os : Array Obj) : (wld w d os).cell? ⟨b, o, none⟩ = w.cell? ⟨b, o, none⟩ :=
  (below_wld w d os).cell (p := ⟨b, o, none⟩) hb
theorem wp_region_wld {P : Program} {id : Nat} {Q : Exit → Act → World → Prop} {a : Act} {w : World} {l : List Oper} (hm : P.follows .mixedOrders = true) (hB : Region.lexB .any l.toArray = true)
    (h : wpQuiet P l.toArray (fun w' => ∃ p : GB, w' = wld w p.d p.os) (fun a' => ∀ w', (∃ p : GB, w' = wld w p.d p.os) → Q .normal a' w') l a) : (Code.region id l.toArray true).wp P Q a w :=
  wp_region_quiet (C := fun w' => ∃ p : GB, w' = wld w p.d p.os) hm hB ⟨⟨w.drawn + 1, #[]⟩, by simp [wld]⟩ (by simpa using h)
/-- A callee's contract, met in a world of the class. -/
theorem calls_wld {P : Program} {f : FuncId} {args : Array Value} {w : World} {d : Nat} {os : Array Obj} {v : Value}
    (h : Calls P f args (wld w d os) fun e w' => e = .returned v ∧ Below (wld w d os).heap.size (wld w d os) w') : Calls P f args (wld w d os) fun e w'' => e = .returned v ∧ ∃ p : GB, w'' = wld w p.d p.os :=
  h.mono fun _ _ ⟨he, hb⟩ => ⟨he, wld_of_below ((below_wld w d os).trans (hb.mono (below_wld w d os).size))⟩
theorem calls_wld_same {P : Program} {f : FuncId} {args : Array Value} {w : World} {d : Nat} {os : Array Obj} {v : Value}
    (h : Calls P f args (wld w d os) fun e w' => e = .returned v ∧ wld w d os = w') : Calls P f args (wld w d os) fun e w'' => e = .returned v ∧ ∃ p : GB, w'' = wld w p.d p.os :=
  h.mono fun _ _ ⟨he, hb⟩ => ⟨he, ⟨d, os⟩, hb.symm⟩
theorem below_of_cls {w W : World} (h : ∃ p : GB, W = wld w p.d p.os) : Below w.heap.size w W := by
  obtain ⟨p, rfl⟩ := h
  exact below_wld w p.d p.os
end Wh
namespace Wh
open Go Go.RowKit Go.Proofs
theorem openOne {w : World} {vs : Value} {s : State} (hv : StateV w w.heap.size vs s) : ∃ A0 c0 A1 c1 A2 c2 A3 c3 A4 c4 A5 c5 A6 c6, vs = .agg #[.slice A0 s.on.length c0, .slice A1 s.orders.length c1, .slice A2 s.holds.length c2, .slice A3 s.moves.length c3, .slice A4 s.inn.length c4, .slice A5 s.out.length c5, .slice A6 s.fixed.length c6] ∧ Hid (∀ W, Below w.heap.size w W → StateV W W.heap.size (.agg #[.slice A0 s.on.length c0, .slice A1 s.orders.length c1, .slice A2 s.holds.length c2, .slice A3 s.moves.length c3, .slice A4 s.inn.length c4, .slice A5 s.out.length c5, .slice A6 s.fixed.length c6]) s) ∧ Hid (∀ W, Below w.heap.size w W → SlSl cInt W W.heap.size (.slice A0 s.on.length c0) s.on) ∧ Hid (∀ W, Below w.heap.size w W → SlOrders W W.heap.size (.slice A1 s.orders.length c1) s.orders) ∧ Hid (∀ W, Below w.heap.size w W → Sl cHold W W.heap.size (.slice A2 s.holds.length c2) s.holds) ∧ Hid (∀ W, Below w.heap.size w W → Sl cMove W W.heap.size (.slice A3 s.moves.length c3) s.moves) ∧ Hid (∀ W, Below w.heap.size w W → Sl cInt W W.heap.size (.slice A4 s.inn.length c4) s.inn) ∧ Hid (∀ W, Below w.heap.size w W → Sl cInt W W.heap.size (.slice A5 s.out.length c5) s.out) ∧ Hid (∀ W, Below w.heap.size w W → Sl cInt W W.heap.size (.slice A6 s.fixed.length c6) s.fixed) ∧ s.on.length ≤ 140737488355232 ∧ s.orders.length ≤ 140737488355232 ∧ s.holds.length ≤ 140737488355232 ∧ s.moves.length ≤ 140737488355232 ∧ s.inn.length ≤ 140737488355232 ∧ s.out.length ≤ 140737488355232 ∧ s.fixed.length ≤ 140737488355232 := by
  have hS := hv
  obtain ⟨_, _, _, _, _, _, _, rfl, ⟨A0, c0, vs0, rfl, hl0, hm0, ha0, hr0⟩, ⟨A1, c1, vs1, rfl, hl1, hm1, ha1, hr1⟩, ⟨A2, c2, rfl, hl2, ha2⟩, ⟨A3, c3, rfl, hl3, ha3⟩, ⟨A4, c4, rfl, hl4, ha4⟩, ⟨A5, c5, rfl, hl5, ha5⟩, ⟨A6, c6, rfl, hl6, ha6⟩⟩ := hv
  exact ⟨A0, c0, A1, c1, A2, c2, A3, c3, A4, c4, A5, c5, A6, c6, rfl, Lib.hid (fun W hW => hS.up hW hW.size), Lib.hid (fun W hW => SlSl.up ⟨A0, c0, vs0, rfl, hl0, hm0, ha0, hr0⟩ hW hW.size), Lib.hid (fun W hW => SlOrders.up ⟨A1, c1, vs1, rfl, hl1, hm1, ha1, hr1⟩ hW hW.size), Lib.hid (fun W hW => Sl.up ⟨A2, c2, rfl, hl2, ha2⟩ hW hW.size), Lib.hid (fun W hW => Sl.up ⟨A3, c3, rfl, hl3, ha3⟩ hW hW.size), Lib.hid (fun W hW => Sl.up ⟨A4, c4, rfl, hl4, ha4⟩ hW hW.size), Lib.hid (fun W hW => Sl.up ⟨A5, c5, rfl, hl5, ha5⟩ hW hW.size), Lib.hid (fun W hW => Sl.up ⟨A6, c6, rfl, hl6, ha6⟩ hW hW.size), hl0, hl1, hl2, hl3, hl4, hl5, hl6⟩

theorem openPl {w : World} {v : Value} {p : Plan} (hp : PlanV w w.heap.size v p) : ∃ Ab cb As cs, v = .agg #[.slice Ab p.bins.length cb, .slice As p.sizes.length cs] ∧ Hid (∀ W, Below w.heap.size w W → PlanV W W.heap.size (.agg #[.slice Ab p.bins.length cb, .slice As p.sizes.length cs]) p) ∧ Hid (∀ W, Below w.heap.size w W → Sl cBin W W.heap.size (.slice Ab p.bins.length cb) p.bins) ∧ Hid (∀ W, Below w.heap.size w W → Sl cInt W W.heap.size (.slice As p.sizes.length cs) p.sizes) ∧ p.bins.length ≤ 140737488355232 ∧ p.sizes.length ≤ 140737488355232 := by
  have hP := hp
  obtain ⟨_, _, rfl, ⟨Ab, cb, rfl, hlb, hb⟩, ⟨As, cs, rfl, hls, hs⟩⟩ := hp
  exact ⟨Ab, cb, As, cs, rfl, Lib.hid (fun W hW => hP.up hW hW.size), Lib.hid (fun W hW => Sl.up ⟨Ab, cb, rfl, hlb, hb⟩ hW hW.size), Lib.hid (fun W hW => Sl.up ⟨As, cs, rfl, hls, hs⟩ hW hW.size), hlb, hls⟩

theorem boxesTwo (w : World) (p : Plan) (s : State) (Ab : Option Addr) (cb : Nat) (As : Option Addr) (cs : Nat) (A0 : Option Addr) (c0 : Nat) (A1 : Option Addr) (c1 : Nat) (A2 : Option Addr) (c2 : Nat) (A3 : Option Addr) (c3 : Nat) (A4 : Option Addr) (c4 : Nat) (A5 : Option Addr) (c5 : Nat) (A6 : Option Addr) (c6 : Nat) :
    ∃ W0 : World, (w.alloc (.cells #[.slice Ab p.bins.length cb, .slice As p.sizes.length cs] 25)).alloc (.cells #[.slice A0 s.on.length c0, .slice A1 s.orders.length c1, .slice A2 s.holds.length c2, .slice A3 s.moves.length c3, .slice A4 s.inn.length c4, .slice A5 s.out.length c5, .slice A6 s.fixed.length c6] 31) = W0 ∧ Below w.heap.size w W0 ∧ w.heap.size + 1 < W0.heap.size ∧ w.heap.size < W0.heap.size ∧ Hid (W0.heap.size = w.heap.size + 1 + 1) ∧
      Hid (∀ W, Below W0.heap.size W0 W → (W.cell? ⟨w.heap.size, 0, none⟩ = some (.slice Ab p.bins.length cb) ∧ W.cell? ⟨w.heap.size, 1, none⟩ = some (.slice As p.sizes.length cs)) ∧ W.cell? ⟨w.heap.size + 1, 0, none⟩ = some (.slice A0 s.on.length c0) ∧ W.cell? ⟨w.heap.size + 1, 1, none⟩ = some (.slice A1 s.orders.length c1) ∧ W.cell? ⟨w.heap.size + 1, 2, none⟩ = some (.slice A2 s.holds.length c2) ∧ W.cell? ⟨w.heap.size + 1, 3, none⟩ = some (.slice A3 s.moves.length c3) ∧ W.cell? ⟨w.heap.size + 1, 4, none⟩ = some (.slice A4 s.inn.length c4) ∧ W.cell? ⟨w.heap.size + 1, 5, none⟩ = some (.slice A5 s.out.length c5) ∧ W.cell? ⟨w.heap.size + 1, 6, none⟩ = some (.slice A6 s.fixed.length c6) ∧ w.heap.size + 1 < W.heap.size ∧ w.heap.size < W.heap.size) := by
  refine ⟨_, rfl, ((Below.refl _ _).alloc (Nat.le_refl _) _).alloc (by simp) _, by simp, by simp; omega, Lib.hid (by simp), Lib.hid fun W hW => ?_⟩
  have h1 : Blk ((w.alloc (.cells #[.slice Ab p.bins.length cb, .slice As p.sizes.length cs] 25)).alloc (.cells #[.slice A0 s.on.length c0, .slice A1 s.orders.length c1, .slice A2 s.holds.length c2, .slice A3 s.moves.length c3, .slice A4 s.inn.length c4, .slice A5 s.out.length c5, .slice A6 s.fixed.length c6] 31)) w.heap.size 25 [.slice Ab p.bins.length cb, .slice As p.sizes.length cs] := (Blk.new _ _ _).alloc _
  have h2 : Blk ((w.alloc (.cells #[.slice Ab p.bins.length cb, .slice As p.sizes.length cs] 25)).alloc (.cells #[.slice A0 s.on.length c0, .slice A1 s.orders.length c1, .slice A2 s.holds.length c2, .slice A3 s.moves.length c3, .slice A4 s.inn.length c4, .slice A5 s.out.length c5, .slice A6 s.fixed.length c6] 31)) (w.heap.size + 1) 31 [.slice A0 s.on.length c0, .slice A1 s.orders.length c1, .slice A2 s.holds.length c2, .slice A3 s.moves.length c3, .slice A4 s.inn.length c4, .slice A5 s.out.length c5, .slice A6 s.fixed.length c6] := by
    have := Blk.new (w.alloc (.cells #[.slice Ab p.bins.length cb, .slice As p.sizes.length cs] 25)) 31 #[.slice A0 s.on.length c0, .slice A1 s.orders.length c1, .slice A2 s.holds.length c2, .slice A3 s.moves.length c3, .slice A4 s.inn.length c4, .slice A5 s.out.length c5, .slice A6 s.fixed.length c6]
    rw [World.size_alloc] at this
    exact this
  have k1 := h1.below hW (by simp; omega)
  have k2 := h2.below hW (by simp)
  exact ⟨⟨k1.cell rfl, k1.cell rfl⟩, k2.cell rfl, k2.cell rfl, k2.cell rfl, k2.cell rfl, k2.cell rfl, k2.cell rfl, k2.cell rfl, k2.lt, k1.lt⟩

theorem boxesOne (w : World) (s : State) (A0 : Option Addr) (c0 : Nat) (A1 : Option Addr) (c1 : Nat) (A2 : Option Addr) (c2 : Nat) (A3 : Option Addr) (c3 : Nat) (A4 : Option Addr) (c4 : Nat) (A5 : Option Addr) (c5 : Nat) (A6 : Option Addr) (c6 : Nat) :
    ∃ W0 : World, w.alloc (.cells #[.slice A0 s.on.length c0, .slice A1 s.orders.length c1, .slice A2 s.holds.length c2, .slice A3 s.moves.length c3, .slice A4 s.inn.length c4, .slice A5 s.out.length c5, .slice A6 s.fixed.length c6] 31) = W0 ∧ Below w.heap.size w W0 ∧ w.heap.size < W0.heap.size ∧ w.heap.size < W0.heap.size ∧ Hid (W0.heap.size = w.heap.size + 1) ∧
      Hid (∀ W, Below W0.heap.size W0 W → (True ∧ True) ∧ W.cell? ⟨w.heap.size, 0, none⟩ = some (.slice A0 s.on.length c0) ∧ W.cell? ⟨w.heap.size, 1, none⟩ = some (.slice A1 s.orders.length c1) ∧ W.cell? ⟨w.heap.size, 2, none⟩ = some (.slice A2 s.holds.length c2) ∧ W.cell? ⟨w.heap.size, 3, none⟩ = some (.slice A3 s.moves.length c3) ∧ W.cell? ⟨w.heap.size, 4, none⟩ = some (.slice A4 s.inn.length c4) ∧ W.cell? ⟨w.heap.size, 5, none⟩ = some (.slice A5 s.out.length c5) ∧ W.cell? ⟨w.heap.size, 6, none⟩ = some (.slice A6 s.fixed.length c6) ∧ w.heap.size < W.heap.size ∧ w.heap.size < W.heap.size) := by
  refine ⟨_, rfl, (Below.refl _ _).alloc (Nat.le_refl _) _, by simp, by simp, Lib.hid (by simp), Lib.hid fun W hW => ?_⟩
  have h2 : Blk (w.alloc (.cells #[.slice A0 s.on.length c0, .slice A1 s.orders.length c1, .slice A2 s.holds.length c2, .slice A3 s.moves.length c3, .slice A4 s.inn.length c4, .slice A5 s.out.length c5, .slice A6 s.fixed.length c6] 31)) w.heap.size 31 [.slice A0 s.on.length c0, .slice A1 s.orders.length c1, .slice A2 s.holds.length c2, .slice A3 s.moves.length c3, .slice A4 s.inn.length c4, .slice A5 s.out.length c5, .slice A6 s.fixed.length c6] := Blk.new _ _ _
  have k2 := h2.below hW (by simp)
  exact ⟨⟨trivial, trivial⟩, k2.cell rfl, k2.cell rfl, k2.cell rfl, k2.cell rfl, k2.cell rfl, k2.cell rfl, k2.cell rfl, k2.lt, k2.lt⟩

end Wh
namespace Wh
open Go Go.RowKit Go.Shelf Go.Proofs
attribute [local go_sem] run_indexAt_letter
theorem held_cases (s : State) (b g : Int) (h : Hold) : ((h.bin == b) = false ∧ heldN s b g h = 0) ∨ ((h.bin == b) = true ∧ ((s.line h.order.toNat h.line.toNat).good == g) = false ∧ heldN s b g h = 0) ∨
    ((h.bin == b) = true ∧ ((s.line h.order.toNat h.line.toNat).good == g) = true ∧ heldN s b g h = h.n) := by
  unfold heldN
  by_cases h1 : h.bin = b <;> by_cases h2 : (s.line h.order.toNat h.line.toNat).good = g <;> simp [h1, h2]
theorem from_cases (b g : Int) (x : Move) : ((x.src == b) = false ∧ fromN b g x = 0) ∨ ((x.src == b) = true ∧ (x.good == g) = false ∧ fromN b g x = 0) ∨ ((x.src == b) = true ∧ (x.good == g) = true ∧ fromN b g x = x.n) := by
  unfold fromN
  by_cases h1 : x.src = b <;> by_cases h2 : x.good = g <;> simp [h1, h2]
theorem to_cases (b g : Int) (x : Move) : ((x.dst == b) = false ∧ toN b g x = 0) ∨ ((x.dst == b) = true ∧ (x.good == g) = false ∧ toN b g x = 0) ∨ ((x.dst == b) = true ∧ (x.good == g) = true ∧ toN b g x = x.n) := by
  unfold toN
  by_cases h1 : x.dst = b <;> by_cases h2 : x.good = g <;> simp [h1, h2]

set_option maxHeartbeats 4000000 in
set_option maxRecDepth 10000 in
theorem rBound (w : World) (v : Value) (p : Plan) (s : State) (b g : Int) (hv : StateV w w.heap.size v s) (hs : Sane p s) :
    Calls Try.prog 65 #[v, .int .i64 b, .int .i64 g] w fun e w' => e = .returned (.int .i64 (bound s b g)) ∧ Below w.heap.size w w' := by
  have hS := hv
  obtain ⟨_, _, _, _, _, _, _, rfl, ⟨A0, c0, vs0, rfl, hl0, hm0, ha0, hr0⟩, ⟨A1, c1, vs1, rfl, hl1, hm1, ha1, hr1⟩, ⟨A2, c2, rfl, hl2, ha2⟩, ⟨A3, c3, rfl, hl3, ha3⟩, ⟨A4, c4, rfl, hl4, ha4⟩, ⟨A5, c5, rfl, hl5, ha5⟩, ⟨A6, c6, rfl, hl6, ha6⟩⟩ := hv
  have hb0 : Below w.heap.size w (w.alloc (.cells #[.slice A0 s.on.length c0, .slice A1 s.orders.length c1, .slice A2 s.holds.length c2, .slice A3 s.moves.length c3, .slice A4 s.inn.length c4, .slice A5 s.out.length c5, .slice A6 s.fixed.length c6] 31)) := (Below.refl _ _).alloc (Nat.le_refl _) _
  have hsz0 : w.heap.size < (w.alloc (.cells #[.slice A0 s.on.length c0, .slice A1 s.orders.length c1, .slice A2 s.holds.length c2, .slice A3 s.moves.length c3, .slice A4 s.inn.length c4, .slice A5 s.out.length c5, .slice A6 s.fixed.length c6] 31)).heap.size := by simp
  have hz0 : (w.alloc (.cells #[.slice A0 s.on.length c0, .slice A1 s.orders.length c1, .slice A2 s.holds.length c2, .slice A3 s.moves.length c3, .slice A4 s.inn.length c4, .slice A5 s.out.length c5, .slice A6 s.fixed.length c6] 31)).cell? ⟨w.heap.size, 1, none⟩ = some (.slice A1 s.orders.length c1) ∧ (w.alloc (.cells #[.slice A0 s.on.length c0, .slice A1 s.orders.length c1, .slice A2 s.holds.length c2, .slice A3 s.moves.length c3, .slice A4 s.inn.length c4, .slice A5 s.out.length c5, .slice A6 s.fixed.length c6] 31)).cell? ⟨w.heap.size, 2, none⟩ = some (.slice A2 s.holds.length c2) ∧ (w.alloc (.cells #[.slice A0 s.on.length c0, .slice A1 s.orders.length c1, .slice A2 s.holds.length c2, .slice A3 s.moves.length c3, .slice A4 s.inn.length c4, .slice A5 s.out.length c5, .slice A6 s.fixed.length c6] 31)).cell? ⟨w.heap.size, 3, none⟩ = some (.slice A3 s.moves.length c3) := by simp
  have ho1 : ∀ W, Below w.heap.size w W → SlOrders W W.heap.size (.slice A1 s.orders.length c1) s.orders := fun W hW => SlOrders.up ⟨A1, c1, vs1, rfl, hl1, hm1, ha1, hr1⟩ hW hW.size
  have ho1' := Lib.hid ho1
  have hs72 := ok_len72 hs.holds
  have hs8 := hs.moves8
  have hs4 := hs.orders4
  have hsH := Lib.hid hs
  clear ho1 hs
  go_enter Try.func65, Try.ntmps65
  go_wp2_with fail
  generalize hW0 : w.alloc (.cells #[.slice A0 s.on.length c0, .slice A1 s.orders.length c1, .slice A2 s.holds.length c2, .slice A3 s.moves.length c3, .slice A4 s.inn.length c4, .slice A5 s.out.length c5, .slice A6 s.fixed.length c6] 31) = W0 at hb0 hsz0 hz0 ⊢
  obtain ⟨z1, z2, z3⟩ := hz0
  clear hW0
  go_loopw [7, 8, 9] (fun n i _ wr => ∃ k : Nat, k ≤ s.holds.length ∧ i = .int .i64 k ∧ n = .int .i64 (heldTo s b g k) ∧ Below W0.heap.size W0 wr) (fun n i _ _ => s.holds.length - (intOf i).toNat)
  case atStart => exact ⟨0, Nat.zero_le _, rfl, rfl, Below.refl _ _⟩
  case round =>
    obtain ⟨k, hk, rfl, rfl, hbw⟩ := hrel
    obtain ⟨r1, r2⟩ := heldTo_range hsH.out b g k
    have y1 := (hbw.cell (p := ⟨w.heap.size, 1, none⟩) hsz0).trans z1
    have y2 := (hbw.cell (p := ⟨w.heap.size, 2, none⟩) hsz0).trans z2
    have y3 := (hbw.cell (p := ⟨w.heap.size, 3, none⟩) hsz0).trans z3
    have hbz : w.heap.size < wr.heap.size := Nat.lt_of_lt_of_le hsz0 hbw.size
    have hB := hb0.trans (hbw.mono hb0.size)
    by_cases hlt : k < s.holds.length
    · obtain ⟨hok, hAb, b0, b1, b2, b3⟩ := (ha2.up hB hB.size).hold hlt
      obtain ⟨⟨i1, i2⟩, ⟨i3, i4⟩, _, i7, i8⟩ := hsH.out.holdAt hlt
      have hol : (hold s.holds k).order.toNat < s.orders.length := by omega
      obtain ⟨A', c', hok1, hAb1, _, d1, hsl⟩ := (ho1'.out wr hB).order hol
      have hll : (hold s.holds k).line.toNat < (orderAt s.orders (hold s.holds k).order.toNat).lines.length := by unfold State.order at i4; omega
      obtain ⟨hok2, hAb2, e0, _, _, _⟩ := hsl.at_.line hll
      have hsucc := heldTo_succ (s := s) (b := b) (g := g) hlt
      have i4' : (hold s.holds k).line < ((orderAt s.orders (hold s.holds k).order.toNat).lines.length : Int) := i4
      have hba : Below W0.heap.size W0 (wr.alloc (.cells #[.int .i64 (hold s.holds k).order, .int .i64 (hold s.holds k).line, .int .i64 (hold s.holds k).bin, .int .i64 (hold s.holds k).n] 87)) := hbw.alloc hbw.size _
      have hca : wr.heap.size < (wr.alloc (.cells #[.int .i64 (hold s.holds k).order, .int .i64 (hold s.holds k).line, .int .i64 (hold s.holds k).bin, .int .i64 (hold s.holds k).n] 87)).heap.size := by simp
      have q0 := fun o d os => cells_wld (w := wr.alloc (.cells #[.int .i64 (hold s.holds k).order, .int .i64 (hold s.holds k).line, .int .i64 (hold s.holds k).bin, .int .i64 (hold s.holds k).n] 87)) (b := w.heap.size) (by simp; omega) o d os
      have q1 := fun o d os => cells_wld (w := wr.alloc (.cells #[.int .i64 (hold s.holds k).order, .int .i64 (hold s.holds k).line, .int .i64 (hold s.holds k).bin, .int .i64 (hold s.holds k).n] 87)) (b := wr.heap.size) hca o d os
      have q2 := fun o d os => cells_wld (w := wr.alloc (.cells #[.int .i64 (hold s.holds k).order, .int .i64 (hold s.holds k).line, .int .i64 (hold s.holds k).bin, .int .i64 (hold s.holds k).n] 87)) (b := ablk A1) (by simp; omega) o d os
      have q3 := fun o d os => cells_wld (w := wr.alloc (.cells #[.int .i64 (hold s.holds k).order, .int .i64 (hold s.holds k).line, .int .i64 (hold s.holds k).bin, .int .i64 (hold s.holds k).n] 87)) (b := ablk A') (by simp; omega) o d os
      have hl : lineAt (orderAt s.orders (hold s.holds k).order.toNat).lines (hold s.holds k).line.toNat = s.line (hold s.holds k).order.toNat (hold s.holds k).line.toNat := rfl
      rw [hl] at e0
      have hll' := Lib.hid hll
      clear i4 hl hll
      rcases held_cases s b g (hold s.holds k) with ⟨g1, gh⟩ | ⟨g1, g2, gh⟩ | ⟨g1, g2, gh⟩
      all_goals
        rw [gh] at hsucc
        have hsu := Lib.hid hsucc
        clear hsucc gh
        go_wp2_with fail
        refine wp_region_wld (by kernel_rfl) (by kernel_rfl) ?_
        repeat (go_big_quiet_step (fail))
        refine wpQuiet_nil ?_
        intro W2 hw'
        have hb2 := below_of_cls hw'
        clear hw'
        obtain ⟨hc2, hf2⟩ := bcell hb2
        clear q0 q1 q2 q3
        go_wp2_with fail
        go_roundw
        case rel => exact ⟨k + 1, by omega, by go_num, by rw [hsu.out] <;> first | rfl | simp, hba.trans (hb2.mono hba.size)⟩
        case measure => simp [intOf]; omega
    · obtain rfl : k = s.holds.length := by omega
      rw [heldTo_all] at r1 r2 ⊢
      go_wp2_with fail
      go_loopw [7, 10] (fun n i wr => ∃ k : Nat, k ≤ s.moves.length ∧ i = .int .i64 k ∧ n = .int .i64 (heldIn s b g + goingTo s.moves b g k) ∧ Below W0.heap.size W0 wr) (fun n i _ => s.moves.length - (intOf i).toNat)
      case atStart => exact ⟨0, Nat.zero_le _, rfl, by unfold goingTo; simp, hbw⟩
      case round =>
        clear hbw y1 y2 y3 hbz hB
        obtain ⟨k, hk, rfl, rfl, hbw⟩ := hrel
        obtain ⟨t1, t2⟩ := goingTo_range hsH.out b g k
        have y3 := (hbw.cell (p := ⟨w.heap.size, 3, none⟩) hsz0).trans z3
        have hbz : w.heap.size < wr.heap.size := Nat.lt_of_lt_of_le hsz0 hbw.size
        have hB := hb0.trans (hbw.mono hb0.size)
        by_cases hlt : k < s.moves.length
        · obtain ⟨hok, hAb, b0, b1, b2, b3⟩ := (ha3.up hB hB.size).move hlt
          obtain ⟨_, _, _, _, i7, i8⟩ := hsH.out.moveAt hlt
          have hsucc := goingTo_succ (b := b) (g := g) hlt
          rcases from_cases b g (moveAt s.moves k) with ⟨g1, gh⟩ | ⟨g1, g2, gh⟩ | ⟨g1, g2, gh⟩
          all_goals
            rw [gh] at hsucc
            have hsu := Lib.hid hsucc
            clear hsucc gh
            go_wp2_with fail
            go_roundw
            case rel => exact ⟨k + 1, by omega, by go_num, by rw [hsu.out] <;> first | rfl | (simp <;> omega), hbw⟩
            case measure => simp [intOf]; omega
        · obtain rfl : k = s.moves.length := by omega
          have hall := goingTo_all s.moves b g
          rw [hall] at t1 t2 ⊢
          clear hall
          go_wp2_with fail
          go_ret
          exact ⟨rfl, hB⟩

set_option maxHeartbeats 4000000 in
set_option maxRecDepth 10000 in
theorem sBound (w : World) (v : Value) (p : Plan) (s : State) (b g : Int) (hv : StateV w w.heap.size v s) (hs : Sane p s) :
    Calls Try.prog 98 #[v, .int .i64 b, .int .i64 g] w fun e w' => e = .returned (.int .i64 (bound s b g)) ∧ Below w.heap.size w w' := by
  have hS := hv
  obtain ⟨_, _, _, _, _, _, _, rfl, ⟨A0, c0, vs0, rfl, hl0, hm0, ha0, hr0⟩, ⟨A1, c1, vs1, rfl, hl1, hm1, ha1, hr1⟩, ⟨A2, c2, rfl, hl2, ha2⟩, ⟨A3, c3, rfl, hl3, ha3⟩, ⟨A4, c4, rfl, hl4, ha4⟩, ⟨A5, c5, rfl, hl5, ha5⟩, ⟨A6, c6, rfl, hl6, ha6⟩⟩ := hv
  have hb0 : Below w.heap.size w (w.alloc (.cells #[.slice A0 s.on.length c0, .slice A1 s.orders.length c1, .slice A2 s.holds.length c2, .slice A3 s.moves.length c3, .slice A4 s.inn.length c4, .slice A5 s.out.length c5, .slice A6 s.fixed.length c6] 31)) := (Below.refl _ _).alloc (Nat.le_refl _) _
  have hsz0 : w.heap.size < (w.alloc (.cells #[.slice A0 s.on.length c0, .slice A1 s.orders.length c1, .slice A2 s.holds.length c2, .slice A3 s.moves.length c3, .slice A4 s.inn.length c4, .slice A5 s.out.length c5, .slice A6 s.fixed.length c6] 31)).heap.size := by simp
  have hz0 : (w.alloc (.cells #[.slice A0 s.on.length c0, .slice A1 s.orders.length c1, .slice A2 s.holds.length c2, .slice A3 s.moves.length c3, .slice A4 s.inn.length c4, .slice A5 s.out.length c5, .slice A6 s.fixed.length c6] 31)).cell? ⟨w.heap.size, 1, none⟩ = some (.slice A1 s.orders.length c1) ∧ (w.alloc (.cells #[.slice A0 s.on.length c0, .slice A1 s.orders.length c1, .slice A2 s.holds.length c2, .slice A3 s.moves.length c3, .slice A4 s.inn.length c4, .slice A5 s.out.length c5, .slice A6 s.fixed.length c6] 31)).cell? ⟨w.heap.size, 2, none⟩ = some (.slice A2 s.holds.length c2) ∧ (w.alloc (.cells #[.slice A0 s.on.length c0, .slice A1 s.orders.length c1, .slice A2 s.holds.length c2, .slice A3 s.moves.length c3, .slice A4 s.inn.length c4, .slice A5 s.out.length c5, .slice A6 s.fixed.length c6] 31)).cell? ⟨w.heap.size, 3, none⟩ = some (.slice A3 s.moves.length c3) := by simp
  have ho1 : ∀ W, Below w.heap.size w W → SlOrders W W.heap.size (.slice A1 s.orders.length c1) s.orders := fun W hW => SlOrders.up ⟨A1, c1, vs1, rfl, hl1, hm1, ha1, hr1⟩ hW hW.size
  have ho1' := Lib.hid ho1
  have hs72 := ok_len72 hs.holds
  have hs8 := hs.moves8
  have hs4 := hs.orders4
  have hsH := Lib.hid hs
  clear ho1 hs
  go_enter Try.func98, Try.ntmps98
  go_wp2_with fail
  generalize hW0 : w.alloc (.cells #[.slice A0 s.on.length c0, .slice A1 s.orders.length c1, .slice A2 s.holds.length c2, .slice A3 s.moves.length c3, .slice A4 s.inn.length c4, .slice A5 s.out.length c5, .slice A6 s.fixed.length c6] 31) = W0 at hb0 hsz0 hz0 ⊢
  obtain ⟨z1, z2, z3⟩ := hz0
  clear hW0
  go_loopw [7, 15, 9] (fun n i _ wr => ∃ k : Nat, k ≤ s.holds.length ∧ i = .int .i64 k ∧ n = .int .i64 (heldTo s b g k) ∧ Below W0.heap.size W0 wr) (fun n i _ _ => s.holds.length - (intOf i).toNat)
  case atStart => exact ⟨0, Nat.zero_le _, rfl, rfl, Below.refl _ _⟩
  case round =>
    obtain ⟨k, hk, rfl, rfl, hbw⟩ := hrel
    obtain ⟨r1, r2⟩ := heldTo_range hsH.out b g k
    have y1 := (hbw.cell (p := ⟨w.heap.size, 1, none⟩) hsz0).trans z1
    have y2 := (hbw.cell (p := ⟨w.heap.size, 2, none⟩) hsz0).trans z2
    have y3 := (hbw.cell (p := ⟨w.heap.size, 3, none⟩) hsz0).trans z3
    have hbz : w.heap.size < wr.heap.size := Nat.lt_of_lt_of_le hsz0 hbw.size
    have hB := hb0.trans (hbw.mono hb0.size)
    by_cases hlt : k < s.holds.length
    · obtain ⟨hok, hAb, b0, b1, b2, b3⟩ := (ha2.up hB hB.size).hold hlt
      obtain ⟨⟨i1, i2⟩, ⟨i3, i4⟩, _, i7, i8⟩ := hsH.out.holdAt hlt
      have hol : (hold s.holds k).order.toNat < s.orders.length := by omega
      obtain ⟨A', c', hok1, hAb1, _, d1, hsl⟩ := (ho1'.out wr hB).order hol
      have hll : (hold s.holds k).line.toNat < (orderAt s.orders (hold s.holds k).order.toNat).lines.length := by unfold State.order at i4; omega
      obtain ⟨hok2, hAb2, e0, _, _, _⟩ := hsl.at_.line hll
      have hsucc := heldTo_succ (s := s) (b := b) (g := g) hlt
      have i4' : (hold s.holds k).line < ((orderAt s.orders (hold s.holds k).order.toNat).lines.length : Int) := i4
      have hba : Below W0.heap.size W0 (wr.alloc (.cells #[.int .i64 (hold s.holds k).order, .int .i64 (hold s.holds k).line, .int .i64 (hold s.holds k).bin, .int .i64 (hold s.holds k).n] 87)) := hbw.alloc hbw.size _
      have hca : wr.heap.size < (wr.alloc (.cells #[.int .i64 (hold s.holds k).order, .int .i64 (hold s.holds k).line, .int .i64 (hold s.holds k).bin, .int .i64 (hold s.holds k).n] 87)).heap.size := by simp
      have q0 := fun o d os => cells_wld (w := wr.alloc (.cells #[.int .i64 (hold s.holds k).order, .int .i64 (hold s.holds k).line, .int .i64 (hold s.holds k).bin, .int .i64 (hold s.holds k).n] 87)) (b := w.heap.size) (by simp; omega) o d os
      have q1 := fun o d os => cells_wld (w := wr.alloc (.cells #[.int .i64 (hold s.holds k).order, .int .i64 (hold s.holds k).line, .int .i64 (hold s.holds k).bin, .int .i64 (hold s.holds k).n] 87)) (b := wr.heap.size) hca o d os
      have q2 := fun o d os => cells_wld (w := wr.alloc (.cells #[.int .i64 (hold s.holds k).order, .int .i64 (hold s.holds k).line, .int .i64 (hold s.holds k).bin, .int .i64 (hold s.holds k).n] 87)) (b := ablk A1) (by simp; omega) o d os
      have q3 := fun o d os => cells_wld (w := wr.alloc (.cells #[.int .i64 (hold s.holds k).order, .int .i64 (hold s.holds k).line, .int .i64 (hold s.holds k).bin, .int .i64 (hold s.holds k).n] 87)) (b := ablk A') (by simp; omega) o d os
      have hl : lineAt (orderAt s.orders (hold s.holds k).order.toNat).lines (hold s.holds k).line.toNat = s.line (hold s.holds k).order.toNat (hold s.holds k).line.toNat := rfl
      rw [hl] at e0
      have hll' := Lib.hid hll
      clear i4 hl hll
      rcases held_cases s b g (hold s.holds k) with ⟨g1, gh⟩ | ⟨g1, g2, gh⟩ | ⟨g1, g2, gh⟩
      all_goals
        rw [gh] at hsucc
        have hsu := Lib.hid hsucc
        clear hsucc gh
        go_wp2_with fail
        refine wp_region_wld (by kernel_rfl) (by kernel_rfl) ?_
        repeat (go_big_quiet_step (fail))
        refine wpQuiet_nil ?_
        intro W2 hw'
        have hb2 := below_of_cls hw'
        clear hw'
        obtain ⟨hc2, hf2⟩ := bcell hb2
        clear q0 q1 q2 q3
        go_wp2_with fail
        go_roundw
        case rel => exact ⟨k + 1, by omega, by go_num, by rw [hsu.out] <;> first | rfl | simp, hba.trans (hb2.mono hba.size)⟩
        case measure => simp [intOf]; omega
    · obtain rfl : k = s.holds.length := by omega
      rw [heldTo_all] at r1 r2 ⊢
      go_wp2_with fail
      go_loopw [7, 47, 11] (fun n i _ wr => ∃ k : Nat, k ≤ s.moves.length ∧ i = .int .i64 k ∧ n = .int .i64 (heldIn s b g + goingTo s.moves b g k) ∧ Below W0.heap.size W0 wr) (fun n i _ _ => s.moves.length - (intOf i).toNat)
      case atStart => exact ⟨0, Nat.zero_le _, rfl, by unfold goingTo; simp, hbw⟩
      case round =>
        clear hbw y1 y2 y3 hbz hB
        obtain ⟨k, hk, rfl, rfl, hbw⟩ := hrel
        obtain ⟨t1, t2⟩ := goingTo_range hsH.out b g k
        have y3 := (hbw.cell (p := ⟨w.heap.size, 3, none⟩) hsz0).trans z3
        have hbz : w.heap.size < wr.heap.size := Nat.lt_of_lt_of_le hsz0 hbw.size
        have hB := hb0.trans (hbw.mono hb0.size)
        by_cases hlt : k < s.moves.length
        · obtain ⟨hok, hAb, b0, b1, b2, b3⟩ := (ha3.up hB hB.size).move hlt
          obtain ⟨_, _, _, _, i7, i8⟩ := hsH.out.moveAt hlt
          have hsucc := goingTo_succ (b := b) (g := g) hlt
          rcases from_cases b g (moveAt s.moves k) with ⟨g1, gh⟩ | ⟨g1, g2, gh⟩ | ⟨g1, g2, gh⟩
          all_goals
            rw [gh] at hsucc
            have hsu := Lib.hid hsucc
            clear hsucc gh
            go_wp2_with fail
            go_roundw
            case rel => exact ⟨k + 1, by omega, by go_num, by rw [hsu.out] <;> first | rfl | (simp <;> omega), hbw.alloc hbw.size (.cells #[.int .i64 (moveAt s.moves k).good, .int .i64 (moveAt s.moves k).src, .int .i64 (moveAt s.moves k).dst, .int .i64 (moveAt s.moves k).n] 92)⟩
            case measure => simp [intOf]; omega
        · obtain rfl : k = s.moves.length := by omega
          have hall := goingTo_all s.moves b g
          rw [hall] at t1 t2 ⊢
          clear hall
          go_wp2_with fail
          go_ret
          exact ⟨rfl, hB⟩

set_option maxHeartbeats 4000000 in
set_option maxRecDepth 10000 in
theorem rComing (w : World) (v : Value) (p : Plan) (s : State) (b g : Int) (hv : StateV w w.heap.size v s) (hs : Sane p s) :
    Calls Try.prog 67 #[v, .int .i64 b, .int .i64 g] w fun e w' => e = .returned (.int .i64 (coming s b g)) ∧ Below w.heap.size w w' := by
  have hS := hv
  obtain ⟨_, _, _, _, _, _, _, rfl, ⟨A0, c0, vs0, rfl, hl0, hm0, ha0, hr0⟩, ⟨A1, c1, vs1, rfl, hl1, hm1, ha1, hr1⟩, ⟨A2, c2, rfl, hl2, ha2⟩, ⟨A3, c3, rfl, hl3, ha3⟩, ⟨A4, c4, rfl, hl4, ha4⟩, ⟨A5, c5, rfl, hl5, ha5⟩, ⟨A6, c6, rfl, hl6, ha6⟩⟩ := hv
  have hb0 : Below w.heap.size w (w.alloc (.cells #[.slice A0 s.on.length c0, .slice A1 s.orders.length c1, .slice A2 s.holds.length c2, .slice A3 s.moves.length c3, .slice A4 s.inn.length c4, .slice A5 s.out.length c5, .slice A6 s.fixed.length c6] 31)) := (Below.refl _ _).alloc (Nat.le_refl _) _
  have hsz0 : w.heap.size < (w.alloc (.cells #[.slice A0 s.on.length c0, .slice A1 s.orders.length c1, .slice A2 s.holds.length c2, .slice A3 s.moves.length c3, .slice A4 s.inn.length c4, .slice A5 s.out.length c5, .slice A6 s.fixed.length c6] 31)).heap.size := by simp
  have hz0 : (w.alloc (.cells #[.slice A0 s.on.length c0, .slice A1 s.orders.length c1, .slice A2 s.holds.length c2, .slice A3 s.moves.length c3, .slice A4 s.inn.length c4, .slice A5 s.out.length c5, .slice A6 s.fixed.length c6] 31)).cell? ⟨w.heap.size, 1, none⟩ = some (.slice A1 s.orders.length c1) ∧ (w.alloc (.cells #[.slice A0 s.on.length c0, .slice A1 s.orders.length c1, .slice A2 s.holds.length c2, .slice A3 s.moves.length c3, .slice A4 s.inn.length c4, .slice A5 s.out.length c5, .slice A6 s.fixed.length c6] 31)).cell? ⟨w.heap.size, 2, none⟩ = some (.slice A2 s.holds.length c2) ∧ (w.alloc (.cells #[.slice A0 s.on.length c0, .slice A1 s.orders.length c1, .slice A2 s.holds.length c2, .slice A3 s.moves.length c3, .slice A4 s.inn.length c4, .slice A5 s.out.length c5, .slice A6 s.fixed.length c6] 31)).cell? ⟨w.heap.size, 3, none⟩ = some (.slice A3 s.moves.length c3) := by simp
  have ho1 : ∀ W, Below w.heap.size w W → SlOrders W W.heap.size (.slice A1 s.orders.length c1) s.orders := fun W hW => SlOrders.up ⟨A1, c1, vs1, rfl, hl1, hm1, ha1, hr1⟩ hW hW.size
  have ho1' := Lib.hid ho1
  have hs72 := ok_len72 hs.holds
  have hs8 := hs.moves8
  have hs4 := hs.orders4
  have hsH := Lib.hid hs
  clear ho1 hs
  go_enter Try.func67, Try.ntmps67
  go_wp2_with fail
  generalize hW0 : w.alloc (.cells #[.slice A0 s.on.length c0, .slice A1 s.orders.length c1, .slice A2 s.holds.length c2, .slice A3 s.moves.length c3, .slice A4 s.inn.length c4, .slice A5 s.out.length c5, .slice A6 s.fixed.length c6] 31) = W0 at hb0 hsz0 hz0 ⊢
  obtain ⟨z1, z2, z3⟩ := hz0
  clear hW0
  go_loopw [7, 8] (fun n i wr => ∃ k : Nat, k ≤ s.moves.length ∧ i = .int .i64 k ∧ n = .int .i64 (comingTo s.moves b g k) ∧ Below W0.heap.size W0 wr) (fun n i _ => s.moves.length - (intOf i).toNat)
  case atStart => exact ⟨0, Nat.zero_le _, rfl, rfl, Below.refl _ _⟩
  case round =>
    skip
    obtain ⟨k, hk, rfl, rfl, hbw⟩ := hrel
    obtain ⟨t1, t2⟩ := comingTo_range hsH.out b g k
    have y3 := (hbw.cell (p := ⟨w.heap.size, 3, none⟩) hsz0).trans z3
    have hbz : w.heap.size < wr.heap.size := Nat.lt_of_lt_of_le hsz0 hbw.size
    have hB := hb0.trans (hbw.mono hb0.size)
    by_cases hlt : k < s.moves.length
    · obtain ⟨hok, hAb, b0, b1, b2, b3⟩ := (ha3.up hB hB.size).move hlt
      obtain ⟨_, _, _, _, i7, i8⟩ := hsH.out.moveAt hlt
      have hsucc := comingTo_succ (b := b) (g := g) hlt
      rcases to_cases b g (moveAt s.moves k) with ⟨g1, gh⟩ | ⟨g1, g2, gh⟩ | ⟨g1, g2, gh⟩
      all_goals
        rw [gh] at hsucc
        have hsu := Lib.hid hsucc
        clear hsucc gh
        go_wp2_with fail
        go_roundw
        case rel => exact ⟨k + 1, by omega, by go_num, by rw [hsu.out] <;> first | rfl | (simp <;> omega), hbw⟩
        case measure => simp [intOf]; omega
    · obtain rfl : k = s.moves.length := by omega
      have hall := comingTo_all s.moves b g
      rw [hall] at t1 t2 ⊢
      clear hall
      go_wp2_with fail
      go_ret
      exact ⟨rfl, hB⟩

set_option maxHeartbeats 4000000 in
set_option maxRecDepth 10000 in
theorem sComing (w : World) (v : Value) (p : Plan) (s : State) (b g : Int) (hv : StateV w w.heap.size v s) (hs : Sane p s) :
    Calls Try.prog 69 #[v, .int .i64 b, .int .i64 g] w fun e w' => e = .returned (.int .i64 (coming s b g)) ∧ Below w.heap.size w w' := by
  have hS := hv
  obtain ⟨_, _, _, _, _, _, _, rfl, ⟨A0, c0, vs0, rfl, hl0, hm0, ha0, hr0⟩, ⟨A1, c1, vs1, rfl, hl1, hm1, ha1, hr1⟩, ⟨A2, c2, rfl, hl2, ha2⟩, ⟨A3, c3, rfl, hl3, ha3⟩, ⟨A4, c4, rfl, hl4, ha4⟩, ⟨A5, c5, rfl, hl5, ha5⟩, ⟨A6, c6, rfl, hl6, ha6⟩⟩ := hv
  have hb0 : Below w.heap.size w (w.alloc (.cells #[.slice A0 s.on.length c0, .slice A1 s.orders.length c1, .slice A2 s.holds.length c2, .slice A3 s.moves.length c3, .slice A4 s.inn.length c4, .slice A5 s.out.length c5, .slice A6 s.fixed.length c6] 31)) := (Below.refl _ _).alloc (Nat.le_refl _) _
  have hsz0 : w.heap.size < (w.alloc (.cells #[.slice A0 s.on.length c0, .slice A1 s.orders.length c1, .slice A2 s.holds.length c2, .slice A3 s.moves.length c3, .slice A4 s.inn.length c4, .slice A5 s.out.length c5, .slice A6 s.fixed.length c6] 31)).heap.size := by simp
  have hz0 : (w.alloc (.cells #[.slice A0 s.on.length c0, .slice A1 s.orders.length c1, .slice A2 s.holds.length c2, .slice A3 s.moves.length c3, .slice A4 s.inn.length c4, .slice A5 s.out.length c5, .slice A6 s.fixed.length c6] 31)).cell? ⟨w.heap.size, 1, none⟩ = some (.slice A1 s.orders.length c1) ∧ (w.alloc (.cells #[.slice A0 s.on.length c0, .slice A1 s.orders.length c1, .slice A2 s.holds.length c2, .slice A3 s.moves.length c3, .slice A4 s.inn.length c4, .slice A5 s.out.length c5, .slice A6 s.fixed.length c6] 31)).cell? ⟨w.heap.size, 2, none⟩ = some (.slice A2 s.holds.length c2) ∧ (w.alloc (.cells #[.slice A0 s.on.length c0, .slice A1 s.orders.length c1, .slice A2 s.holds.length c2, .slice A3 s.moves.length c3, .slice A4 s.inn.length c4, .slice A5 s.out.length c5, .slice A6 s.fixed.length c6] 31)).cell? ⟨w.heap.size, 3, none⟩ = some (.slice A3 s.moves.length c3) := by simp
  have ho1 : ∀ W, Below w.heap.size w W → SlOrders W W.heap.size (.slice A1 s.orders.length c1) s.orders := fun W hW => SlOrders.up ⟨A1, c1, vs1, rfl, hl1, hm1, ha1, hr1⟩ hW hW.size
  have ho1' := Lib.hid ho1
  have hs72 := ok_len72 hs.holds
  have hs8 := hs.moves8
  have hs4 := hs.orders4
  have hsH := Lib.hid hs
  clear ho1 hs
  go_enter Try.func69, Try.ntmps69
  go_wp2_with fail
  generalize hW0 : w.alloc (.cells #[.slice A0 s.on.length c0, .slice A1 s.orders.length c1, .slice A2 s.holds.length c2, .slice A3 s.moves.length c3, .slice A4 s.inn.length c4, .slice A5 s.out.length c5, .slice A6 s.fixed.length c6] 31) = W0 at hb0 hsz0 hz0 ⊢
  obtain ⟨z1, z2, z3⟩ := hz0
  clear hW0
  go_loopw [7, 13, 9] (fun n i _ wr => ∃ k : Nat, k ≤ s.moves.length ∧ i = .int .i64 k ∧ n = .int .i64 (comingTo s.moves b g k) ∧ Below W0.heap.size W0 wr) (fun n i _ _ => s.moves.length - (intOf i).toNat)
  case atStart => exact ⟨0, Nat.zero_le _, rfl, rfl, Below.refl _ _⟩
  case round =>
    skip
    obtain ⟨k, hk, rfl, rfl, hbw⟩ := hrel
    obtain ⟨t1, t2⟩ := comingTo_range hsH.out b g k
    have y3 := (hbw.cell (p := ⟨w.heap.size, 3, none⟩) hsz0).trans z3
    have hbz : w.heap.size < wr.heap.size := Nat.lt_of_lt_of_le hsz0 hbw.size
    have hB := hb0.trans (hbw.mono hb0.size)
    by_cases hlt : k < s.moves.length
    · obtain ⟨hok, hAb, b0, b1, b2, b3⟩ := (ha3.up hB hB.size).move hlt
      obtain ⟨_, _, _, _, i7, i8⟩ := hsH.out.moveAt hlt
      have hsucc := comingTo_succ (b := b) (g := g) hlt
      rcases to_cases b g (moveAt s.moves k) with ⟨g1, gh⟩ | ⟨g1, g2, gh⟩ | ⟨g1, g2, gh⟩
      all_goals
        rw [gh] at hsucc
        have hsu := Lib.hid hsucc
        clear hsucc gh
        go_wp2_with fail
        go_roundw
        case rel => exact ⟨k + 1, by omega, by go_num, by rw [hsu.out] <;> first | rfl | (simp <;> omega), hbw.alloc hbw.size (.cells #[.int .i64 (moveAt s.moves k).good, .int .i64 (moveAt s.moves k).src, .int .i64 (moveAt s.moves k).dst, .int .i64 (moveAt s.moves k).n] 92)⟩
        case measure => simp [intOf]; omega
    · obtain rfl : k = s.moves.length := by omega
      have hall := comingTo_all s.moves b g
      rw [hall] at t1 t2 ⊢
      clear hall
      go_wp2_with fail
      go_ret
      exact ⟨rfl, hB⟩

end Wh
namespace Wh
open Go Go.RowKit Go.Shelf Go.Proofs
attribute [local go_sem] run_indexAt_letter
set_option maxHeartbeats 400000 in
theorem pWithin (n lo hi : Int) (w : World) :
    Calls Try.prog 81 #[.int .i64 n, .int .i64 lo, .int .i64 hi] w fun e w' => e = .returned (.bool (within n lo hi)) ∧ w = w' := by
  go_enter Try.func81, Try.ntmps81
  by_cases h1 : lo ≤ n
  · by_cases h2 : n ≤ hi
    · go_wp2
      go_ret
      exact ⟨by simp [within, h1, h2], rfl⟩
    · go_wp2
      go_ret
      exact ⟨by simp [within]; omega, rfl⟩
  · go_wp2
    go_ret
    exact ⟨by simp [within]; omega, rfl⟩

set_option maxHeartbeats 400000 in
theorem planBad (b : Bin) (W : World) :
    Calls Try.prog 83 #[vBin b] W fun e W' => e = .returned (.bool (!binOk b)) ∧ Below W.heap.size W W' := by
  unfold vBin
  go_enter Try.func83, Try.ntmps83
  rcases binOk_bad b with ⟨h1, h⟩ | ⟨h1, h2, h⟩ | ⟨h1, h2, h3, h⟩ | ⟨h1, h2, h3, h⟩
  · go_wp2_with (go_at_call 81; refine (pWithin _ _ _ _).mono ?_; rintro e w' ⟨rfl, rfl⟩)
    go_ret
    exact ⟨ret_bool (by rw [h]; rfl), (Below.refl _ _).alloc (Nat.le_refl _) _⟩
  · go_wp2_with (go_at_call 81; refine (pWithin _ _ _ _).mono ?_; rintro e w' ⟨rfl, rfl⟩)
    go_ret
    exact ⟨ret_bool (by rw [h]; rfl), (Below.refl _ _).alloc (Nat.le_refl _) _⟩
  · go_wp2_with (go_at_call 81; refine (pWithin _ _ _ _).mono ?_; rintro e w' ⟨rfl, rfl⟩)
    go_ret
    exact ⟨ret_bool (by rw [h]; rfl), (Below.refl _ _).alloc (Nat.le_refl _) _⟩
  · go_wp2_with (go_at_call 81; refine (pWithin _ _ _ _).mono ?_; rintro e w' ⟨rfl, rfl⟩)
    go_ret
    exact ⟨ret_bool (by rw [h]; simp; omega), (Below.refl _ _).alloc (Nat.le_refl _) _⟩

theorem entersBad : Enters Try.prog 83 := enters_of Try.func83 (by kernel_rfl) rfl

set_option maxHeartbeats 1000000 in
theorem planCheck (w : World) (v : Value) (p : Plan) (hp : PlanV w w.heap.size v p) :
    Calls Try.prog 52 #[v] w fun e w' => e = .returned (.int .i64 (checkPlan p)) ∧ Below w.heap.size w w' := by
  obtain ⟨_, _, rfl, ⟨Ab, cb, rfl, hlb, hb⟩, ⟨As, cs, rfl, hls, hs⟩⟩ := hp
  have hb0 : Below w.heap.size w (w.alloc (.cells #[.slice Ab p.bins.length cb, .slice As p.sizes.length cs] 25)) := (Below.refl _ _).alloc (Nat.le_refl _) _
  go_enter Try.func52, Try.ntmps52
  cases h1 : within p.bins.length 1 6
  · go_wp2_with (go_at_call 81; refine (pWithin _ _ _ _).mono ?_; rintro e w' ⟨rfl, rfl⟩)
    go_ret
    exact ⟨ret_int (checkPlan_two (.inl h1)).symm, hb0⟩
  cases h2 : within p.sizes.length 1 3
  · go_wp2_with (go_at_call 81; refine (pWithin _ _ _ _).mono ?_; rintro e w' ⟨rfl, rfl⟩)
    go_ret
    exact ⟨ret_int (checkPlan_two (.inr h2)).symm, hb0⟩
  have hpos : 0 < p.sizes.length := by have := within_iff.1 h2; omega
  have hsb : ∀ W, Below w.heap.size w W → Sl cBin W W.heap.size (.slice Ab p.bins.length cb) p.bins := fun W hW => Sl.up ⟨Ab, cb, rfl, hlb, hb⟩ hW hW.size
  have hss : ∀ W, Below w.heap.size w W → Sl cInt W W.heap.size (.slice As p.sizes.length cs) p.sizes := fun W hW => Sl.up ⟨As, cs, rfl, hls, hs⟩ hW hW.size
  go_wp2_with (go_at_call 81; refine (pWithin _ _ _ _).mono ?_; rintro e w' ⟨rfl, rfl⟩)
  refine (containsFuncBin _ _ p.bins 83 #[] (fun b => !binOk b) entersBad (hsb _ hb0) (fun k _ W _ => planBad _ W)).mono ?_
  rintro e W1 ⟨rfl, hb1⟩
  have hbw := hb0.trans (hb1.mono (by simp))
  have hsz := hb1.size
  obtain ⟨hc1, hf1⟩ := bcell hb1
  cases hbad : (p.bins.any fun b => !binOk b)
  · go_wp2_with fail
    refine (slMin _ _ p.sizes (hss _ hbw) hpos).mono ?_
    rintro e w' ⟨rfl, rfl⟩
    by_cases hlo : lowest p.sizes < 1
    · go_wp2_with fail
      go_ret
      exact ⟨ret_int (checkPlan_lowest h1 h2 hlo).symm, hbw⟩
    · go_wp2_with fail
      refine (slMax _ _ p.sizes (hss _ hbw) hpos).mono ?_
      rintro e w' ⟨rfl, rfl⟩
      by_cases hgr : 9 < greatest p.sizes
      · go_wp2_with fail
        go_ret
        exact ⟨ret_int (checkPlan_greatest h1 h2 hgr).symm, hbw⟩
      · go_wp2_with fail
        go_ret
        exact ⟨ret_int (checkPlan_good h1 h2 hbad (by omega) (by omega)).symm, hbw⟩
  · go_wp2_with fail
    go_ret
    exact ⟨ret_int (checkPlan_bad h1 h2 hbad).symm, hbw⟩
end Wh
namespace Wh
open Go Go.RowKit Go.Shelf Go.Proofs
attribute [local go_sem] run_indexAt_letter
set_option maxHeartbeats 400000 in
theorem rIsBin (w : World) (v : Value) (p : Plan) (b : Int) (hp : PlanV w w.heap.size v p) (hn : p.bins.length ≤ 1000) :
    Calls Try.prog 63 #[v, .int .i64 b] w fun e w' => e = .returned (.bool (isBin p b)) ∧ Below w.heap.size w w' := by
  obtain ⟨_, _, rfl, ⟨Ab, cb, rfl, hlb, hb⟩, ⟨As, cs, rfl, hls, hs⟩⟩ := hp
  go_enter Try.func63, Try.ntmps63
  go_wp2_with (go_at_call 45; refine (rWithin _ _ _ _).mono ?_; rintro e w' ⟨rfl, rfl⟩)
  go_ret
  exact ⟨rfl, (Below.refl _ _).alloc (Nat.le_refl _) _⟩
set_option maxHeartbeats 400000 in
theorem rIsGood (w : World) (v : Value) (p : Plan) (g : Int) (hp : PlanV w w.heap.size v p) (hn : p.sizes.length ≤ 1000) :
    Calls Try.prog 64 #[v, .int .i64 g] w fun e w' => e = .returned (.bool (isGood p g)) ∧ Below w.heap.size w w' := by
  obtain ⟨_, _, rfl, ⟨Ab, cb, rfl, hlb, hb⟩, ⟨As, cs, rfl, hls, hs⟩⟩ := hp
  go_enter Try.func64, Try.ntmps64
  go_wp2_with (go_at_call 45; refine (rWithin _ _ _ _).mono ?_; rintro e w' ⟨rfl, rfl⟩)
  go_ret
  exact ⟨rfl, (Below.refl _ _).alloc (Nat.le_refl _) _⟩

theorem there_parts (p : Plan) (b g : Int) : (b < 0 ∧ (isBin p b && isGood p g) = false) ∨ (0 ≤ b ∧ (p.bins.length : Int) ≤ b ∧ (isBin p b && isGood p g) = false) ∨
    (0 ≤ b ∧ b < p.bins.length ∧ g < 0 ∧ (isBin p b && isGood p g) = false) ∨ (0 ≤ b ∧ b < p.bins.length ∧ 0 ≤ g ∧ (p.sizes.length : Int) ≤ g ∧ (isBin p b && isGood p g) = false) ∨
    (0 ≤ b ∧ b < p.bins.length ∧ 0 ≤ g ∧ g < p.sizes.length ∧ (isBin p b && isGood p g) = true) := by
  have h1 := @isBin_iff p b
  have h2 := @isGood_iff p g
  cases hb : isBin p b <;> cases hg : isGood p g <;> simp [hb, hg] at h1 h2 ⊢ <;> omega

set_option maxHeartbeats 400000 in
theorem shThere (w : World) (v : Value) (p : Plan) (b g : Int) (hp : PlanV w w.heap.size v p) :
    Calls Try.prog 60 #[v, .int .i64 b, .int .i64 g] w fun e w' => e = .returned (.bool (isBin p b && isGood p g)) ∧ Below w.heap.size w w' := by
  obtain ⟨_, _, rfl, ⟨Ab, cb, rfl, hlb, hb⟩, ⟨As, cs, rfl, hls, hs⟩⟩ := hp
  go_enter Try.func60, Try.ntmps60
  rcases there_parts p b g with ⟨h1, h⟩ | ⟨h1, h2, h⟩ | ⟨h1, h2, h3, h⟩ | ⟨h1, h2, h3, h4, h⟩ | ⟨h1, h2, h3, h4, h⟩
  all_goals
    go_wp2
    go_ret
    exact ⟨ret_bool (by first | rfl | (simp <;> omega) | (rw [h] <;> first | rfl | (simp <;> omega))), (Below.refl _ _).alloc (Nat.le_refl _) _⟩

set_option maxHeartbeats 400000 in
theorem shelfBad (p : Plan) (row : List Int) (W : World) (B : Nat) (u : Value) (hn : 0 < p.sizes.length) (As : Option Addr) (cs : Nat) (hc : W.cell? ⟨B, 1, none⟩ = some (.slice As p.sizes.length cs)) (hu : Sl cInt W W.heap.size u row) :
    Calls Try.prog 86 #[u, .pointer (some ⟨B, 0, none⟩)] W fun e W' => e = .returned (.bool (!rowOk p row)) ∧ Below W.heap.size W W' := by
  have hu' := hu
  obtain ⟨A, c, rfl, hl, hA⟩ := hu
  go_enter Try.func86, Try.ntmps86
  rcases rowOk_bad row hn with ⟨h1, h⟩ | ⟨h1, h2, h⟩ | ⟨h1, h2, h3, h⟩ | ⟨h1, h2, h3, h⟩
  · go_wp2_with fail
    go_ret
    exact ⟨ret_bool (by rw [h]; rfl), Below.refl _ _⟩
  all_goals
    have hpos : 0 < row.length := by omega
    have hle1 := Nat.le_of_eq h1
    have hle2 := Nat.le_of_eq h1.symm
    clear h1
    go_wp2_with (first | (go_at_call 84; refine (slMin _ _ row hu' hpos).mono ?_; rintro e w' ⟨rfl, rfl⟩) | (go_at_call 85; refine (slMax _ _ row hu' hpos).mono ?_; rintro e w' ⟨rfl, rfl⟩))
    go_ret
    exact ⟨ret_bool (by first | rfl | (simp <;> omega) | (rw [h] <;> first | rfl | (simp <;> omega))), Below.refl _ _⟩
theorem entersShelfBad : Enters Try.prog 86 := enters_of Try.func86 (by kernel_rfl) rfl
end Wh
namespace Wh
open Go Go.RowKit Go.Shelf Go.Proofs
attribute [local go_sem] run_indexAt_letter
set_option maxHeartbeats 1000000 in
theorem shelfCheck (w : World) (v vo : Value) (p : Plan) (on : List (List Int)) (hp : PlanV w w.heap.size v p) (ho : SlSl cInt w w.heap.size vo on) :
    Calls Try.prog 54 #[v, vo] w fun e w' => e = .returned (.int .i64 (checkShelf p on)) ∧ Below w.heap.size w w' := by
  have hP := hp
  have hO := ho
  obtain ⟨_, _, rfl, ⟨Ab, cb, rfl, hlb, hb⟩, ⟨As, cs, rfl, hls, hs⟩⟩ := hp
  obtain ⟨A, c, vs, rfl, hl, hvl, hA, hrows⟩ := ho
  have hb0 : Below w.heap.size w (w.alloc (.cells #[.slice Ab p.bins.length cb, .slice As p.sizes.length cs] 25)) := (Below.refl _ _).alloc (Nat.le_refl _) _
  go_enter Try.func54, Try.ntmps54
  go_wp2_with fail
  refine (planCheck _ _ p (hP.up hb0 hb0.size)).mono ?_
  rintro e W1 ⟨rfl, hb1⟩
  have hbw := hb0.trans (hb1.mono (by simp))
  have hsz := hb1.size
  obtain ⟨hc1, hf1⟩ := bcell hb1
  by_cases hz : checkPlan p = 0
  · have hz' := checkPlan_zero.1 hz
    have hpos : 0 < p.sizes.length := hz'.2.1.1
    have hcell : W1.cell? ⟨w.heap.size, 1, none⟩ = some (.slice As p.sizes.length cs) := by rw [hc1 _ _ (by simp)]; simp
    by_cases hlen : on.length = p.bins.length
    · have hle1 := Nat.le_of_eq hlen
      have hle2 := Nat.le_of_eq hlen.symm
      have hlen' := Lib.hid hlen
      clear hlen
      go_wp2_with fail
      refine (containsFuncRow _ _ on 86 #[.pointer (some ⟨w.heap.size, 0, none⟩)] (fun r => !rowOk p r) entersShelfBad (hO.up hbw hbw.size) (fun k _ W hW u hu =>
        shelfBad p (rowAt on k) W w.heap.size u hpos As cs ((hW.cell (p := ⟨w.heap.size, 1, none⟩) (by simp at hsz ⊢; omega)).trans hcell) hu)).mono ?_
      rintro e W2 ⟨rfl, hb2⟩
      have hbw2 := hbw.trans (hb2.mono hbw.size)
      cases hbad : (on.any fun r => !rowOk p r)
      · go_wp2_with fail
        go_ret
        exact ⟨ret_int (checkShelf_good hz hlen'.out hbad).symm, hbw2⟩
      · go_wp2_with fail
        go_ret
        exact ⟨ret_int (checkShelf_bad hz hbad).symm, hbw2⟩
    · have hno := checkShelf_len hz hlen
      go_wp2_with fail
      go_ret
      exact ⟨ret_int hno.symm, hbw⟩
  · have hno := checkShelf_plan (on := on) hz
    go_wp2_with fail
    go_ret
    exact ⟨ret_int hno.symm, hbw⟩

set_option maxHeartbeats 1000000 in
theorem rCheckShelf (w : World) (v vo : Value) (p : Plan) (on : List (List Int)) (hp : PlanV w w.heap.size v p) (ho : SlSl cInt w w.heap.size vo on) :
    Calls Try.prog 44 #[v, vo] w fun e w' => e = .returned (.int .i64 (checkShelf p on)) ∧ Below w.heap.size w w' := by
  have hP := hp
  have hO := ho
  obtain ⟨_, _, rfl, ⟨Ab, cb, rfl, hlb, hb⟩, ⟨As, cs, rfl, hls, hs⟩⟩ := hp
  obtain ⟨A, c, vs, rfl, hl, hvl, hA, hrows⟩ := ho
  have hb0 : Below w.heap.size w (w.alloc (.cells #[.slice Ab p.bins.length cb, .slice As p.sizes.length cs] 25)) := (Below.refl _ _).alloc (Nat.le_refl _) _
  go_enter Try.func44, Try.ntmps44
  go_wp2_with fail
  refine (rCheckPlan _ _ p (hP.up hb0 hb0.size)).mono ?_
  rintro e W1 ⟨rfl, hb1⟩
  have hbw := hb0.trans (hb1.mono (by simp))
  have hsz := hb1.size
  obtain ⟨hc1, hf1⟩ := bcell hb1
  by_cases hz : checkPlan p = 0
  · have hz' := checkPlan_zero.1 hz
    have hpos : 0 < p.sizes.length := hz'.2.1.1
    by_cases hlen : on.length = p.bins.length
    · have hle1 := Nat.le_of_eq hlen
      have hle2 := Nat.le_of_eq hlen.symm
      have hlen' := Lib.hid hlen
      have hnb : ((on.length : Int) != (p.bins.length : Int)) = false := by rw [hlen]; simp
      have hcell0 : W1.cell? ⟨w.heap.size, 0, none⟩ = some (.slice Ab p.bins.length cb) := by rw [hc1 _ _ (by simp)]; simp
      have hcell1 : W1.cell? ⟨w.heap.size, 1, none⟩ = some (.slice As p.sizes.length cs) := by rw [hc1 _ _ (by simp)]; simp
      have hsz1 : w.heap.size < W1.heap.size := by simp at hsz; omega
      clear hlen hc1 hf1 hsz hb1 hz'
      have hzz := Lib.hid hz
      go_wp2_with fail
      clear hz
      go_loopw [6] (fun i wr => ∃ k : Nat, k ≤ on.length ∧ i = .int .i64 k ∧ (∀ j, j < k → rowOk p (rowAt on j) = true) ∧ Below w.heap.size w wr ∧ w.heap.size < wr.heap.size ∧ wr.cell? ⟨w.heap.size, 1, none⟩ = some (.slice As p.sizes.length cs)) (fun i _ => on.length - (intOf i).toNat)
      case atStart => exact ⟨0, Nat.zero_le _, rfl, fun j hj => by omega, hbw, hsz1, hcell1⟩
      case round =>
        obtain ⟨k, hk, rfl, hall, hbr, hszr, hcr⟩ := hrel
        by_cases hlt : k < on.length
        · obtain ⟨A', c', hok, hAb, hcu, hsu⟩ := (hO.up hbr hbr.size).row hlt
          have hA2 := hsu.at_
          by_cases hrl : (rowAt on k).length = p.sizes.length
          · have hr1 := Nat.le_of_eq hrl
            have hr2 := Nat.le_of_eq hrl.symm
            have hrl' := Lib.hid hrl
            have hnr : (((rowAt on k).length : Int) != (p.sizes.length : Int)) = false := by rw [hrl]; simp
            clear hrl
            go_wp2_with fail
            go_quiet (fail)
            go_wp2_with fail
            have hA3 := hA2.up (below_drewN (Below.refl _ _) nq) (Nat.le_refl _)
            go_loop [7] (fun i => ∃ j : Nat, j ≤ (rowAt on k).length ∧ i = .int .i64 j ∧ (∀ m, m < j → within (intAt (rowAt on k) m) 0 200 = true)) (fun i => (rowAt on k).length - (intOf i).toNat)
            case atStart => exact ⟨0, Nat.zero_le _, rfl, fun j hj => by omega⟩
            case round =>
              obtain ⟨j, hj, rfl, hall2⟩ := hrel
              by_cases hjt : j < (rowAt on k).length
              · obtain ⟨hok2, hAb2, b2⟩ := hA3.int hjt
                cases g1 : within (intAt (rowAt on k) j) 0 200
                · have hfin := Lib.hid (checkShelf_row hzz.out hlt (rowOk_cell hjt g1))
                  go_wp2_with (go_at_call 45; refine (rWithin _ _ _ _).mono ?_; rintro e w' ⟨rfl, rfl⟩)
                  go_ret
                  exact ⟨ret_int hfin.out.symm, below_drewN hbr _⟩
                · go_wp2_with (go_at_call 45; refine (rWithin _ _ _ _).mono ?_; rintro e w' ⟨rfl, rfl⟩)
                  go_round
                  case rel =>
                    refine ⟨j + 1, by omega, by go_num, fun m hm => ?_⟩
                    rcases Nat.lt_succ_iff_lt_or_eq.1 hm with h | rfl
                    · exact hall2 m h
                    · exact g1
                  case measure => simp [intOf]; omega
              · obtain rfl : j = (rowAt on k).length := by omega
                have hrow := rowOk_all hrl'.out hall2
                go_wp2_with fail
                go_roundw
                case rel =>
                  refine ⟨k + 1, by omega, by go_num, fun m hm => ?_, below_drewN hbr _, hszr, hcr⟩
                  rcases Nat.lt_succ_iff_lt_or_eq.1 hm with h | rfl
                  · exact hall m h
                  · exact hrow
                case measure => simp [intOf]; omega
          · have hno : rowOk p (rowAt on k) = false := by unfold rowOk; simp [hrl]
            have hfin := Lib.hid (checkShelf_row hzz.out hlt hno)
            go_wp2_with fail
            go_quiet (fail)
            go_wp2_with fail
            go_ret
            exact ⟨ret_int hfin.out.symm, below_drewN hbr _⟩
        · obtain rfl : k = on.length := by omega
          have hfin := Lib.hid (checkShelf_all hzz.out hlen'.out hall)
          go_wp2_with fail
          go_ret
          exact ⟨ret_int hfin.out.symm, hbr⟩
    · have hno := checkShelf_len hz hlen
      go_wp2_with fail
      go_ret
      exact ⟨ret_int hno.symm, hbw⟩
  · have hno := checkShelf_plan (on := on) hz
    go_wp2_with fail
    go_ret
    exact ⟨ret_int hno.symm, hbw⟩
end Wh
namespace Wh
open Go Go.RowKit Go.Shelf Go.Proofs
attribute [local go_sem] run_indexAt_letter
theorem shelfError_check {p : Plan} {on : List (List Int)} {b g : Int} (h : checkShelf p on ≠ 0) : shelfError p on b g = checkShelf p on := by
  unfold shelfError
  rw [if_pos h]
theorem shelfError_there {p : Plan} {on : List (List Int)} {b g : Int} (h : checkShelf p on = 0) (h2 : (isBin p b && isGood p g) = false) : shelfError p on b g = 3 := by
  unfold shelfError
  simp [h, h2]
theorem shelfError_ok {p : Plan} {on : List (List Int)} {b g : Int} (h : checkShelf p on = 0) (h2 : (isBin p b && isGood p g) = true) : shelfError p on b g = 0 := by
  unfold shelfError
  simp [h, h2]

set_option maxHeartbeats 1000000 in
theorem shelfAsked (w : World) (v vo : Value) (p : Plan) (on : List (List Int)) (b g : Int) (hp : PlanV w w.heap.size v p) (ho : SlSl cInt w w.heap.size vo on) :
    Calls Try.prog 68 #[v, vo, .int .i64 b, .int .i64 g] w fun e w' => e = .returned (.int .i64 (shelfError p on b g)) ∧ Below w.heap.size w w' := by
  have hP := hp
  have hO := ho
  obtain ⟨_, _, rfl, ⟨Ab, cb, rfl, hlb, hb⟩, ⟨As, cs, rfl, hls, hs⟩⟩ := hp
  have hb0 : Below w.heap.size w (w.alloc (.cells #[.slice Ab p.bins.length cb, .slice As p.sizes.length cs] 25)) := (Below.refl _ _).alloc (Nat.le_refl _) _
  go_enter Try.func68, Try.ntmps68
  go_wp2_with fail
  refine (shelfCheck _ _ vo p on (hP.up hb0 hb0.size) (hO.up hb0 hb0.size)).mono ?_
  rintro e W1 ⟨rfl, hb1⟩
  have hbw := hb0.trans (hb1.mono (by simp))
  have hsz := hb1.size
  obtain ⟨hc1, hf1⟩ := bcell hb1
  by_cases hz : checkShelf p on = 0
  · go_wp2_with fail
    refine (shThere _ _ p b g (hP.up hbw hbw.size)).mono ?_
    rintro e W2 ⟨rfl, hb2⟩
    have hbw2 := hbw.trans (hb2.mono hbw.size)
    cases ht : (isBin p b && isGood p g)
    · have hfin := Lib.hid (shelfError_there hz ht)
      go_wp2_with fail
      go_ret
      exact ⟨ret_int hfin.out.symm, hbw2⟩
    · have hfin := Lib.hid (shelfError_ok hz ht)
      go_wp2_with fail
      go_ret
      exact ⟨ret_int hfin.out.symm, hbw2⟩
  · have hfin := Lib.hid (shelfError_check (b := b) (g := g) hz)
    go_wp2_with fail
    go_ret
    exact ⟨ret_int hfin.out.symm, hbw⟩

set_option maxHeartbeats 1000000 in
theorem rShelfError (w : World) (v vo : Value) (p : Plan) (on : List (List Int)) (b g : Int) (hp : PlanV w w.heap.size v p) (ho : SlSl cInt w w.heap.size vo on) :
    Calls Try.prog 28 #[v, vo, .int .i64 b, .int .i64 g] w fun e w' => e = .returned (.int .i64 (shelfError p on b g)) ∧ Below w.heap.size w w' := by
  have hP := hp
  have hO := ho
  obtain ⟨_, _, rfl, ⟨Ab, cb, rfl, hlb, hb⟩, ⟨As, cs, rfl, hls, hs⟩⟩ := hp
  have hb0 : Below w.heap.size w (w.alloc (.cells #[.slice Ab p.bins.length cb, .slice As p.sizes.length cs] 25)) := (Below.refl _ _).alloc (Nat.le_refl _) _
  go_enter Try.func28, Try.ntmps28
  go_wp2_with fail
  refine (rCheckShelf _ _ vo p on (hP.up hb0 hb0.size) (hO.up hb0 hb0.size)).mono ?_
  rintro e W1 ⟨rfl, hb1⟩
  have hbw := hb0.trans (hb1.mono (by simp))
  have hsz := hb1.size
  obtain ⟨hc1, hf1⟩ := bcell hb1
  by_cases hz : checkShelf p on = 0
  · have hpl := checkPlan_zero.1 (checkShelf_zero.1 hz).1
    go_wp2_with fail
    refine (rIsBin _ _ p b (hP.up hbw hbw.size) (by omega)).mono ?_
    rintro e W2 ⟨rfl, hb2⟩
    have hbw2 := hbw.trans (hb2.mono hbw.size)
    obtain ⟨hc2, hf2⟩ := bcell hb2
    have hsz2 := hb2.size
    cases hbn : isBin p b
    · have hfin := Lib.hid (shelfError_there (g := g) hz (by rw [hbn]; rfl))
      go_wp2_with fail
      go_ret
      exact ⟨ret_int hfin.out.symm, hbw2⟩
    · have hlt2 : w.heap.size < W1.heap.size := by simp at hsz; omega
      go_wp2_with fail
      refine (rIsGood _ _ p g (hP.up hbw2 hbw2.size) (by omega)).mono ?_
      rintro e W3 ⟨rfl, hb3⟩
      have hbw3 := hbw2.trans (hb3.mono hbw2.size)
      cases hgn : isGood p g
      · have hfin := Lib.hid (shelfError_there (b := b) (g := g) hz (by rw [hbn, hgn]; rfl))
        go_wp2_with fail
        go_ret
        exact ⟨ret_int hfin.out.symm, hbw3⟩
      · have hfin := Lib.hid (shelfError_ok (b := b) (g := g) hz (by rw [hbn, hgn]; rfl))
        go_wp2_with fail
        go_ret
        exact ⟨ret_int hfin.out.symm, hbw3⟩
  · have hfin := Lib.hid (shelfError_check (b := b) (g := g) hz)
    go_wp2_with fail
    go_ret
    exact ⟨ret_int hfin.out.symm, hbw⟩
end Wh
namespace Wh
open Go Go.RowKit Go.Shelf Go.Proofs
attribute [local go_sem] run_indexAt_letter
set_option maxHeartbeats 1000000 in
theorem rUsedOf (w : World) (v vo : Value) (p : Plan) (on : List (List Int)) (b : Nat) (hp : PlanV w w.heap.size v p) (ho : SlSl cInt w w.heap.size vo on) (hz : checkShelf p on = 0) (hbn : b < p.bins.length) :
    Calls Try.prog 66 #[v, vo, .int .i64 b] w fun e w' => e = .returned (.int .i64 (usedOf p on b)) ∧ Below w.heap.size w w' := by
  have hP := hp
  have hO := ho
  obtain ⟨_, _, rfl, ⟨Ab, cb, rfl, hlb, hb⟩, ⟨As, cs, rfl, hls, hs⟩⟩ := hp
  obtain ⟨A, c, vs, rfl, hl, hvl, hA, hrows⟩ := ho
  have hb0 : Below w.heap.size w (w.alloc (.cells #[.slice Ab p.bins.length cb, .slice As p.sizes.length cs] 25)) := (Below.refl _ _).alloc (Nat.le_refl _) _
  have hbl : b < on.length := by rw [right_len hz]; exact hbn
  have hcnt := right_counts (checkShelf_zero.1 hz).1
  have hrow := right_row hz hbl
  have hle := Nat.le_of_eq hrow.symm
  have hR := Lib.hid hrow
  clear hrow
  go_enter Try.func66, Try.ntmps66
  go_wp2_with fail
  go_loopw [7, 8] (fun n i wr => ∃ k : Nat, k ≤ p.sizes.length ∧ i = .int .i64 k ∧ n = .int .i64 (sumTo (fun g => cell on b g * intAt p.sizes g) k) ∧ Below w.heap.size w wr ∧ w.heap.size < wr.heap.size ∧ wr.cell? ⟨w.heap.size, 1, none⟩ = some (.slice As p.sizes.length cs)) (fun _ i _ => p.sizes.length - (intOf i).toNat)
  case atStart => exact ⟨0, Nat.zero_le _, rfl, rfl, hb0, by simp, by simp⟩
  case round =>
    obtain ⟨k, hk, rfl, rfl, hbw, hsz, hc1⟩ := hrel
    by_cases hlt : k < p.sizes.length
    · obtain ⟨A', c', hok, hAb, hcu, hsu⟩ := (hO.up hbw hbw.size).row hbl
      obtain ⟨hok2, hAb2, b2⟩ := hsu.at_.int (i := k) (by rw [hR.out]; exact hlt)
      obtain ⟨hok3, hAb3, b3⟩ := (hs.up hbw hbw.size).int hlt
      obtain ⟨u1, u2⟩ := used_range hz hbl hk
      have hu2 : sumTo (fun g => cell on b g * intAt p.sizes g) k ≤ 9000 := by omega
      obtain ⟨q1, q2⟩ := prod_range (right_cell hz hbl hlt) (right_size (checkShelf_zero.1 hz).1 hlt)
      unfold cell at q1 q2
      clear u2
      have hlr : k < (rowAt on b).length := by omega
      go_wp2_with fail
      go_quiet (fail)
      go_wp2_with fail
      go_roundw
      case rel => exact ⟨k + 1, by omega, by go_num, rfl, below_drewN hbw _, hsz, hc1⟩
      case measure => simp [intOf]; omega
    · obtain rfl : k = p.sizes.length := by omega
      go_wp2_with fail
      go_ret
      exact ⟨rfl, hbw⟩

set_option maxHeartbeats 1000000 in
theorem rSumOf (w : World) (vo : Value) (p : Plan) (on : List (List Int)) (g : Nat) (ho : SlSl cInt w w.heap.size vo on) (hz : checkShelf p on = 0) (hgn : g < p.sizes.length) :
    Calls Try.prog 48 #[vo, .int .i64 g] w fun e w' => e = .returned (.int .i64 (sumOf on g)) ∧ w = w' := by
  have hO := ho
  obtain ⟨A, c, vs, rfl, hl, hvl, hA, hrows⟩ := ho
  have hcnt := right_counts (checkShelf_zero.1 hz).1
  have hlen := right_len hz
  have hle := Nat.le_of_eq hlen
  clear hlen
  go_enter Try.func48, Try.ntmps48
  go_wp2_with fail
  go_loop [5, 6] (fun n i => ∃ k : Nat, k ≤ on.length ∧ i = .int .i64 k ∧ n = .int .i64 (sumTo (fun b => cell on b g) k)) (fun _ i => on.length - (intOf i).toNat)
  case atStart => exact ⟨0, Nat.zero_le _, rfl, rfl⟩
  case round =>
    obtain ⟨k, hk, rfl, rfl⟩ := hrel
    by_cases hlt : k < on.length
    · obtain ⟨A', c', hok, hAb, hcu, hsu⟩ := hO.row hlt
      have hgr : g < (rowAt on k).length := by rw [right_row hz hlt]; exact hgn
      obtain ⟨hok2, hAb2, b2⟩ := hsu.at_.int hgr
      obtain ⟨u1, u2⟩ := sum_range hz hgn hk
      have hu2 : sumTo (fun b => cell on b g) k ≤ 9000 := by omega
      obtain ⟨q1, q2⟩ := right_cell hz hlt hgn
      unfold cell at q1 q2
      clear u2
      go_wp2_with fail
      go_round
      case rel => exact ⟨k + 1, by omega, by go_num, rfl⟩
      case measure => simp [intOf]; omega
    · obtain rfl : k = on.length := by omega
      go_wp2_with fail
      go_ret
      exact ⟨rfl, rfl⟩
end Wh
namespace Wh
open Go Go.RowKit Go.Shelf Go.Proofs
attribute [local go_sem] run_indexAt_letter
theorem sumE_ok {p : Plan} {on : List (List Int)} {g : Nat} (h : shelfError p on 0 g = 0) : sumE p on g = sumOf on g := by
  unfold sumE; rw [if_pos h, Int.toNat_natCast]
theorem sumE_no {p : Plan} {on : List (List Int)} {g : Int} (h : shelfError p on 0 g ≠ 0) : sumE p on g = 0 := by
  unfold sumE; rw [if_neg h]

set_option maxHeartbeats 1000000 in
theorem shelfSum (w : World) (v vo : Value) (p : Plan) (on : List (List Int)) (g : Int) (hp : PlanV w w.heap.size v p) (ho : SlSl cInt w w.heap.size vo on) :
    Calls Try.prog 31 #[v, vo, .int .i64 g] w fun e w' => e = .returned (.tuple #[.int .i64 (sumE p on g), .int .i64 (shelfError p on 0 g)]) ∧ Below w.heap.size w w' := by
  have hP := hp
  have hO := ho
  obtain ⟨_, _, rfl, ⟨Ab, cb, rfl, hlb, hb⟩, ⟨As, cs, rfl, hls, hs⟩⟩ := hp
  obtain ⟨A, c, vs, rfl, hl, hvl, hA, hrows⟩ := ho
  have hb0 : Below w.heap.size w (w.alloc (.cells #[.slice Ab p.bins.length cb, .slice As p.sizes.length cs] 25)) := (Below.refl _ _).alloc (Nat.le_refl _) _
  go_enter Try.func31, Try.ntmps31
  go_wp2_with fail
  refine (shelfAsked _ _ _ p on 0 g (hP.up hb0 hb0.size) (hO.up hb0 hb0.size)).mono ?_
  rintro e W1 ⟨rfl, hb1⟩
  have hbw := hb0.trans (hb1.mono (by simp))
  have hsz := hb1.size
  obtain ⟨hc1, hf1⟩ := bcell hb1
  by_cases hz : shelfError p on 0 g = 0
  · obtain ⟨hz1, hz2, hz3⟩ := shelfError_zero.1 hz
    have hbb := isGood_iff.1 hz3
    obtain ⟨g', rfl⟩ : ∃ n : Nat, g = n := ⟨g.toNat, by omega⟩
    have hgn : g' < p.sizes.length := by omega
    have hcnt := right_counts (checkShelf_zero.1 hz1).1
    have hlen := right_len hz1
    have hle := Nat.le_of_eq hlen
    clear hlen hbb hz2 hz3
    have hfin := Lib.hid (sumE_ok hz)
    have hz' := Lib.hid hz
    go_wp2_with fail
    clear hz
    go_loop [9, 21, 11] (fun n i _ => ∃ k : Nat, k ≤ on.length ∧ i = .int .i64 k ∧ n = .int .i64 (sumTo (fun b => cell on b g') k)) (fun _ i _ => on.length - (intOf i).toNat)
    case atStart => exact ⟨0, Nat.zero_le _, rfl, rfl⟩
    case round =>
      obtain ⟨k, hk, rfl, rfl⟩ := hrel
      by_cases hlt : k < on.length
      · obtain ⟨A', c', hok, hAb, hcu, hsu⟩ := (hO.up hbw hbw.size).row hlt
        have hgr : g' < (rowAt on k).length := by rw [right_row hz1 hlt]; exact hgn
        obtain ⟨hok2, hAb2, b2⟩ := hsu.at_.int hgr
        obtain ⟨u1, u2⟩ := sum_range hz1 hgn hk
        have hu2 : sumTo (fun b => cell on b g') k ≤ 9000 := by omega
        obtain ⟨q1, q2⟩ := right_cell hz1 hlt hgn
        unfold cell at q1 q2
        clear u2
        go_wp2_with fail
        go_round
        case rel => exact ⟨k + 1, by omega, by go_num, rfl⟩
        case measure => simp [intOf]; omega
      · obtain rfl : k = on.length := by omega
        go_wp2_with fail
        go_ret2
        exact ⟨ret2 (by rw [hfin.out]; rfl) (by rw [hz'.out]; rfl), hbw⟩
  · have hfin := Lib.hid (sumE_no hz)
    have hz' := Lib.hid hz
    go_wp2_with fail
    go_ret2
    exact ⟨ret2 (by rw [hfin.out]; rfl) rfl, hbw⟩
end Wh
namespace Wh
open Go Go.RowKit Go.Shelf Go.Proofs
attribute [local go_sem] run_indexAt_letter
theorem infoInts : Elem Try.prog 23 (.slice none 0 0) 1 24 := elem_of (by kernel_rfl)

theorem one_val (v : Value) (h : v.oneCell' = true) : ∀ u ∈ (fun x : Value => [x]) v, u.oneCell' = true := by simpa using h

end Wh
namespace Wh
open Go Go.RowKit Go.Shelf Go.Proofs
attribute [local go_sem] run_indexAt_letter evL_tmp evL_const evL_func
theorem own_one {α : Type} {enc : α → List Value} {size : Nat} {e : TypeId} {w : World} {base : Nat} {v : Value} {l : List α} (h : Own enc size e w base v l) : v.oneCell' = true := by
  obtain ⟨A, c, rfl⟩ := h.isSlice
  rfl
end Wh
namespace Wh
-- orders and lines after a store
/-- A state that is as it must be, but maybe that an order is to be closed. -/
structure Right (p : Plan) (s : State) : Prop where
  sane : Sane p s
  good : ∀ g, g < p.sizes.length → goodSummed p s g = true
  line : ∀ o k, o < s.orders.length → k < (s.order o).lines.length → lineSummed s o k = true

theorem mem_line {s : State} {o : Nat} {x : Line} (hx : x ∈ (s.order o).lines) : ∃ k, k < (s.order o).lines.length ∧ s.line o k = x := by
  obtain ⟨k, hk, rfl⟩ := List.getElem_of_mem hx
  exact ⟨k, hk, by unfold State.line; rw [lineAt_eq hk]⟩
/-- Built from what its parts are. -/
theorem Sane.of {p : Plan} {s : State} (h1 : checkShelf p s.on = 0) (h2 : s.orders.length ≤ 4) (h3 : s.moves.length ≤ 8) (h4 : ∀ o, o < s.orders.length → (1 ≤ (s.order o).lines.length ∧ (s.order o).lines.length ≤ 3) ∧ 0 ≤ (s.order o).kind ∧ (s.order o).kind ≤ 2)
    (h5 : ∀ o k, o < s.orders.length → k < (s.order o).lines.length → lineOk p (s.line o k) = true) (h6 : holdsOk s.holds = true) (h7 : ∀ x ∈ s.holds, holdIn p s x = true) (h8 : ∀ x ∈ s.moves, moveOk p x = true)
    (h9 : sumsOk p s.inn 0 = true) (h10 : sumsOk p s.out 0 = true) (h11 : sumsOk p s.fixed (-1048576) = true) : Sane p s := by
  refine ⟨h1, manyOk_iff.2 ⟨h2, h3, all_of dOrder fun o ho => within_iff.2 ?_⟩, formed_iff.2 ⟨all_of dOrder fun o ho => orderOk_iff.2 ⟨(h4 o ho).2, List.all_eq_true.2 fun x hx => ?_⟩, h6, List.all_eq_true.2 h7, List.all_eq_true.2 h8, h9, h10, h11⟩⟩
  · have := (h4 o ho).1
    unfold State.order orderAt at this
    omega
  · obtain ⟨k, hk, rfl⟩ := mem_line (s := s) (o := o) hx
    exact h5 o k ho hk
theorem Right.of {p : Plan} {s : State} (h : Sane p s) (h1 : ∀ g, g < p.sizes.length → sumOf s.on g = intAt s.inn g - intAt s.out g + intAt s.fixed g) (h2 : ∀ b g : Nat, b < p.bins.length → g < p.sizes.length → bound s b g ≤ cell s.on b g)
    (h3 : ∀ o k, o < s.orders.length → k < (s.order o).lines.length → lineSummed s o k = true) : Right p s :=
  ⟨h, fun g hg => goodSummed_iff.2 ⟨h1 g hg, fun b hb => h2 b g hb hg⟩, h3⟩

namespace Right
variable {p : Plan} {s : State} (h : Right p s)
include h
theorem sum {g : Nat} (hg : g < p.sizes.length) : sumOf s.on g = intAt s.inn g - intAt s.out g + intAt s.fixed g := (goodSummed_iff.1 (h.good g hg)).1
end Right
-- one more hold
section
variable {p : Plan} {s : State} {o k b : Nat} {m : Int}
/-- What one more hold needs. -/
structure Fits (p : Plan) (s : State) (o k b : Nat) (m : Int) : Prop where
  ho : o < s.orders.length
  hk : k < (s.order o).lines.length
  hb : b < p.bins.length
  kind : (s.order o).kind = 1
  m1 : 1 ≤ m
  av : m ≤ avail s b (s.line o k).good
  back : m ≤ (s.line o k).back
variable (h : Right p s) (f : Fits p s o k b m)
include h f
end
end Wh
namespace Wh
open Go Go.RowKit Go.Shelf Go.Proofs
attribute [local go_sem] run_indexAt_letter
set_option maxHeartbeats 400000 in
theorem cmpNaN (n : Int) (w : World) : Calls Try.prog 127 #[.int .i64 n] w fun e w' => e = .returned (.bool false) ∧ w = w' := by
  go_enter Try.func127, Try.ntmps127
  go_wp2
  go_ret
  exact ⟨by simp, rfl⟩
set_option maxHeartbeats 400000 in
theorem cmpCompare (a b : Int) (w : World) : Calls Try.prog 122 #[.int .i64 a, .int .i64 b] w fun e w' => e = .returned (.int .i64 (cmp3 a b)) ∧ w = w' := by
  rcases cmp3_cases a b with ⟨h1, h2⟩ | ⟨h1, h2⟩ | ⟨h1, h2⟩
  · go_enter Try.func122, Try.ntmps122
    go_wp2_with (go_at_call 127; refine (cmpNaN _ _).mono ?_; rintro e w' ⟨rfl, rfl⟩)
    go_ret
    exact ⟨ret_int h2.symm, rfl⟩
  · go_enter Try.func122, Try.ntmps122
    go_wp2_with (go_at_call 127; refine (cmpNaN _ _).mono ?_; rintro e w' ⟨rfl, rfl⟩)
    go_ret
    exact ⟨ret_int h2.symm, rfl⟩
  · subst h1
    go_enter Try.func122, Try.ntmps122
    go_wp2_with (go_at_call 127; refine (cmpNaN _ _).mono ?_; rintro e w' ⟨rfl, rfl⟩)
    go_ret
    exact ⟨ret_int h2.symm, rfl⟩

def or3 (a b c : Int) : Int := if a ≠ 0 then a else if b ≠ 0 then b else c
set_option maxHeartbeats 1000000 in
theorem cmpOr (a b c : Int) (w : World) (bl off k : Nat) (h0 : w.cell? ⟨bl, off, none⟩ = some (.int .i64 a)) (h1 : w.cell? ⟨bl, off + 1, none⟩ = some (.int .i64 b)) (h2 : w.cell? ⟨bl, off + 2, none⟩ = some (.int .i64 c)) :
    Calls Try.prog 121 #[.slice (some ⟨bl, off, none⟩) 3 k] w fun e w' => e = .returned (.int .i64 (or3 a b c)) ∧ w = w' := by
  by_cases ha : a = 0
  · subst ha
    by_cases hb : b = 0
    · subst hb
      have hfin : or3 0 0 c = c := by simp [or3]
      by_cases hc : c = 0
      · subst hc
        go_enter Try.func121, Try.ntmps121
        go_wp2_with fail
        refine wp_loop_rounds 4 ?_
        rw [rounds_succ]
        go_wp2_with fail
        rw [rounds_succ]
        go_wp2_with fail
        rw [rounds_succ]
        go_wp2_with fail
        rw [rounds_succ]
        go_wp2_with fail
        go_ret
        exact ⟨ret_int hfin.symm, rfl⟩
      · have hc' : (c != 0) = true := by simpa using hc
        go_enter Try.func121, Try.ntmps121
        go_wp2_with fail
        refine wp_loop_rounds 4 ?_
        rw [rounds_succ]
        go_wp2_with fail
        rw [rounds_succ]
        go_wp2_with fail
        rw [rounds_succ]
        go_wp2_with fail
        go_ret
        exact ⟨ret_int hfin.symm, rfl⟩
    · have hfin : or3 0 b c = b := by simp [or3, hb]
      have hb' : (b != 0) = true := by simpa using hb
      go_enter Try.func121, Try.ntmps121
      go_wp2_with fail
      refine wp_loop_rounds 4 ?_
      rw [rounds_succ]
      go_wp2_with fail
      rw [rounds_succ]
      go_wp2_with fail
      go_ret
      exact ⟨ret_int hfin.symm, rfl⟩
  · have hfin : or3 a b c = a := by simp [or3, ha]
    have ha' : (a != 0) = true := by simpa using ha
    go_enter Try.func121, Try.ntmps121
    go_wp2_with fail
    refine wp_loop_rounds 4 ?_
    rw [rounds_succ]
    go_wp2_with fail
    go_ret
    exact ⟨ret_int hfin.symm, rfl⟩

set_option maxHeartbeats 400000 in
theorem hdOrder (a b : Hold) (w : World) : Calls Try.prog 111 #[vHold a, vHold b] w fun e w' => e = .returned (.int .i64 (ord a b)) ∧ Below w.heap.size w w' := by
  unfold vHold
  go_enter Try.func111, Try.ntmps111
  go_wp2_with fail
  go_region_held3 (fun w' => w'.cell? ⟨w.heap.size, 0, none⟩ = some (.int .i64 a.order) ∧ w'.cell? ⟨w.heap.size, 1, none⟩ = some (.int .i64 a.line) ∧ w'.cell? ⟨w.heap.size, 2, none⟩ = some (.int .i64 a.bin) ∧
    w'.cell? ⟨w.heap.size + 1, 0, none⟩ = some (.int .i64 b.order) ∧ w'.cell? ⟨w.heap.size + 1, 1, none⟩ = some (.int .i64 b.line) ∧ w'.cell? ⟨w.heap.size + 1, 2, none⟩ = some (.int .i64 b.bin)) (first | go_keep)
    (first
    | (go_at_call 122; refine (cmpCompare _ _ _).mono ?_; rintro e w' ⟨rfl, rfl⟩)
    | (go_at_call 121; refine (cmpOr (cmp3 a.order b.order) (cmp3 a.line b.line) (cmp3 a.bin b.bin) _ _ _ _ (by go_simp) (by go_simp) (by go_simp)).mono ?_; rintro e w' ⟨rfl, rfl⟩))
  go_wp2_with fail
  go_ret
  exact ⟨rfl, ((((Below.refl _ _).alloc (Nat.le_refl _) _).alloc (by simp) _).alloc (by simp; omega) _).drew⟩

set_option maxHeartbeats 1000000 in
theorem rPlace (h : Hold) (w : World) (hk : keyOk h.order h.line h.bin) : Calls Try.prog 113 #[vHold h] w fun e w' => e = .returned (.int .i64 (place h)) ∧ Below w.heap.size w w' := by
  obtain ⟨⟨a1, a2⟩, ⟨b1, b2⟩, ⟨c1, c2⟩⟩ := hk
  unfold vHold
  go_enter Try.func113, Try.ntmps113
  go_wp2
  go_ret
  exact ⟨rfl, (Below.refl _ _).alloc (Nat.le_refl _) _⟩

theorem fine_parts (h : Hold) : (within h.order 0 3 = false ∧ holdFine h = false) ∨ (within h.order 0 3 = true ∧ within h.line 0 2 = false ∧ holdFine h = false) ∨
    (within h.order 0 3 = true ∧ within h.line 0 2 = true ∧ within h.bin 0 5 = false ∧ holdFine h = false) ∨ (within h.order 0 3 = true ∧ within h.line 0 2 = true ∧ within h.bin 0 5 = true ∧ holdFine h = within h.n 1 200) := by
  unfold holdFine
  cases within h.order 0 3 <;> cases within h.line 0 2 <;> cases within h.bin 0 5 <;> simp

set_option maxHeartbeats 1000000 in
theorem rHoldFine (h : Hold) (w : World) : Calls Try.prog 112 #[vHold h] w fun e w' => e = .returned (.bool (holdFine h)) ∧ Below w.heap.size w w' := by
  unfold vHold
  rcases fine_parts h with ⟨g1, hf⟩ | ⟨g1, g2, hf⟩ | ⟨g1, g2, g3, hf⟩ | ⟨g1, g2, g3, hf⟩
  all_goals
    go_enter Try.func112, Try.ntmps112
    go_wp2_with (go_at_call 45; refine (rWithin _ _ _ _).mono ?_; rintro e w' ⟨rfl, rfl⟩)
    go_ret
    exact ⟨ret_bool hf.symm, (Below.refl _ _).alloc (Nat.le_refl _) _⟩
end Wh
namespace Wh
open Go Go.RowKit Go.Shelf Go.Proofs
attribute [local go_sem] run_indexAt_letter
theorem hold_parts (h : Hold) : (min (min h.order h.line) h.bin < 0 ∧ holdFine h = false) ∨ (0 ≤ min (min h.order h.line) h.bin ∧ 4 ≤ h.order ∧ holdFine h = false) ∨
    (0 ≤ min (min h.order h.line) h.bin ∧ h.order < 4 ∧ 3 ≤ h.line ∧ holdFine h = false) ∨ (0 ≤ min (min h.order h.line) h.bin ∧ h.order < 4 ∧ h.line < 3 ∧ 6 ≤ h.bin ∧ holdFine h = false) ∨
    (0 ≤ min (min h.order h.line) h.bin ∧ h.order < 4 ∧ h.line < 3 ∧ h.bin < 6 ∧ h.n < 1 ∧ holdFine h = false) ∨ (0 ≤ min (min h.order h.line) h.bin ∧ h.order < 4 ∧ h.line < 3 ∧ h.bin < 6 ∧ 1 ≤ h.n ∧ 200 < h.n ∧ holdFine h = false) ∨
    (0 ≤ min (min h.order h.line) h.bin ∧ h.order < 4 ∧ h.line < 3 ∧ h.bin < 6 ∧ 1 ≤ h.n ∧ h.n ≤ 200 ∧ holdFine h = true) := by
  have hi := @fine_iff h
  unfold keyOk at hi
  cases hf : holdFine h
  · rw [hf] at hi
    simp only [Bool.false_eq_true, false_iff] at hi
    simp only [and_true, reduceCtorEq, and_false, or_false]
    omega
  · rw [hf] at hi
    simp only [true_iff] at hi
    simp only [and_true, reduceCtorEq, and_false, false_or]
    omega

set_option maxHeartbeats 1000000 in
theorem hdFine (h : Hold) (w : World) : Calls Try.prog 110 #[vHold h] w fun e w' => e = .returned (.bool (holdFine h)) ∧ Below w.heap.size w w' := by
  unfold vHold
  rcases hold_parts h with ⟨g1, hf⟩ | ⟨g1, g2, hf⟩ | ⟨g1, g2, g3, hf⟩ | ⟨g1, g2, g3, g4, hf⟩ | ⟨g1, g2, g3, g4, g5, hf⟩ | ⟨g1, g2, g3, g4, g5, g6, hf⟩ | ⟨g1, g2, g3, g4, g5, g6, hf⟩
  all_goals
    have hf' := Lib.hid hf
    clear hf
    go_enter Try.func110, Try.ntmps110
    go_wp2
    all_goals
      go_ret
      exact ⟨ret_bool (by rw [hf'.out] <;> first | rfl | (simp <;> omega)), (Below.refl _ _).alloc (Nat.le_refl _) _⟩

def stepOk (l : List Hold) (k : Nat) : Bool := holdFine (hold l k) && (decide (k = 0) || decide (place (hold l (k - 1)) < place (hold l k)))
theorem holds_step {l : List Hold} {k : Nat} (hk : k < l.length) (h : stepOk l k = false) : checkHolds l = 1 := by
  unfold checkHolds
  rw [if_neg]
  intro hc
  have := List.all_eq_true.1 hc k (List.mem_range.2 hk)
  unfold stepOk at h
  rw [h] at this
  cases this
theorem holds_all {l : List Hold} (h : ∀ k, k < l.length → stepOk l k = true) : checkHolds l = 0 := by
  unfold checkHolds
  rw [if_pos]
  exact List.all_eq_true.2 fun k hk => h k (List.mem_range.1 hk)
theorem step_fine {l : List Hold} {k : Nat} (h : stepOk l k = true) : holdFine (hold l k) = true := by
  unfold stepOk at h
  simp only [Bool.and_eq_true] at h
  exact h.1
theorem step_no {l : List Hold} {k : Nat} (h : holdFine (hold l k) = false) : stepOk l k = false := by
  unfold stepOk
  rw [h]; rfl
theorem step_zero {l : List Hold} (h : holdFine (hold l 0) = true) : stepOk l 0 = true := by
  unfold stepOk
  rw [h]; rfl
theorem step_succ {l : List Hold} {k : Nat} (h : holdFine (hold l (k + 1)) = true) : stepOk l (k + 1) = decide (place (hold l k) < place (hold l (k + 1))) := by
  unfold stepOk
  rw [h]
  simp
theorem step_ord {l : List Hold} {k : Nat} (h : holdFine (hold l (k + 1)) = true) (h0 : holdFine (hold l k) = true) : stepOk l (k + 1) = decide (ord (hold l k) (hold l (k + 1)) < 0) := by
  rw [step_succ h]
  congr 1
  rw [ord_place (fine_iff.1 h0).1 (fine_iff.1 h).1]

set_option maxHeartbeats 1000000 in
theorem hdCheck (w : World) (v : Value) (l : List Hold) (hv : Sl cHold w w.heap.size v l) :
    Calls Try.prog 78 #[v] w fun e w' => e = .returned (.int .i64 (checkHolds l)) ∧ Below w.heap.size w w' := by
  obtain ⟨A, c, rfl, hl, hA⟩ := hv
  go_enter Try.func78, Try.ntmps78
  go_wp2_with fail
  go_loopw [7, 3, 4] (fun i _ _ wr => ∃ k : Nat, k ≤ l.length ∧ i = .int .i64 k ∧ (∀ j, j < k → stepOk l j = true) ∧ Below w.heap.size w wr) (fun i _ _ _ => l.length - (intOf i).toNat)
  case atStart => exact ⟨0, Nat.zero_le _, rfl, fun j hj => by omega, Below.refl _ _⟩
  case round =>
    obtain ⟨k, hk, rfl, hall, hbw⟩ := hrel
    by_cases hlt : k < l.length
    · obtain ⟨hok, hAb, b0, b1, b2, b3⟩ := (hA.up hbw hbw.size).hold hlt
      have hba : Below w.heap.size w (wr.alloc (.cells #[.int .i64 (hold l k).order, .int .i64 (hold l k).line, .int .i64 (hold l k).bin, .int .i64 (hold l k).n] 87)) := hbw.alloc hbw.size _
      have q0 := fun o d os => cells_wld (w := wr.alloc (.cells #[.int .i64 (hold l k).order, .int .i64 (hold l k).line, .int .i64 (hold l k).bin, .int .i64 (hold l k).n] 87)) (b := wr.heap.size) (by simp) o d os
      cases hf : holdFine (hold l k)
      · go_wp2_with fail
        refine wp_region_wld (by kernel_rfl) (by kernel_rfl) ?_
        repeat (go_big_quiet_step ((go_at_call 110; refine calls_wld (hdFine (hold l k) _))))
        refine wpQuiet_nil ?_
        intro W2 hw'
        have hb2 := below_of_cls hw'
        clear hw'
        go_wp2_with fail
        go_ret
        exact ⟨ret_int (holds_step hlt (step_no hf)).symm, hba.trans (hb2.mono hba.size)⟩
      · rcases k with _ | m
        · have hst := step_zero hf
          simp only [Nat.zero_mul, Nat.add_zero] at b0 b1 b2 b3
          go_wp2_with fail
          refine wp_region_wld (by kernel_rfl) (by kernel_rfl) ?_
          repeat (go_big_quiet_step ((go_at_call 110; refine calls_wld (hdFine (hold l 0) _))))
          refine wpQuiet_nil ?_
          intro W2 hw'
          have hb2 := below_of_cls hw'
          clear hw'
          go_wp2_with fail
          go_roundw
          case rel => exact ⟨1, by omega, by go_num, fun j hj => by (obtain rfl : j = 0 := by omega); exact hst, hba.trans (hb2.mono hba.size)⟩
          case measure => simp [intOf]; omega
        · obtain ⟨_, _, c0, c1, c2, c3⟩ := (hA.up hbw hbw.size).hold (show m < l.length by omega)
          have qA := fun o d os => cells_wld (w := wr.alloc (.cells #[.int .i64 (hold l (m + 1)).order, .int .i64 (hold l (m + 1)).line, .int .i64 (hold l (m + 1)).bin, .int .i64 (hold l (m + 1)).n] 87)) (b := ablk A) (by simp; omega) o d os
          have hst := step_ord hf (step_fine (hall m (by omega)))
          by_cases ho : ord (hold l m) (hold l (m + 1)) < 0
          · have hst' := Lib.hid (show stepOk l (m + 1) = true by rw [hst]; simpa using ho)
            clear hst
            go_wp2_with fail
            refine wp_region_wld (by kernel_rfl) (by kernel_rfl) ?_
            repeat (go_big_quiet_step ((first | (go_at_call 110; refine calls_wld (hdFine (hold l (m + 1)) _)) | (go_at_call 111; refine calls_wld (hdOrder (hold l m) (hold l (m + 1)) _)))))
            refine wpQuiet_nil ?_
            intro W2 hw'
            have hb2 := below_of_cls hw'
            clear hw'
            go_wp2_with fail
            go_roundw
            case rel =>
              refine ⟨m + 2, by omega, by go_num, fun j hj => ?_, hba.trans (hb2.mono hba.size)⟩
              rcases Nat.lt_succ_iff_lt_or_eq.1 hj with h | rfl
              · exact hall j h
              · exact hst'.out
            case measure => simp [intOf]; omega
          · have hst' := Lib.hid (show stepOk l (m + 1) = false by rw [hst]; simpa using ho)
            have ho' : 0 ≤ ord (hold l m) (hold l (m + 1)) := by omega
            clear hst ho
            go_wp2_with fail
            refine wp_region_wld (by kernel_rfl) (by kernel_rfl) ?_
            repeat (go_big_quiet_step ((first | (go_at_call 110; refine calls_wld (hdFine (hold l (m + 1)) _)) | (go_at_call 111; refine calls_wld (hdOrder (hold l m) (hold l (m + 1)) _)))))
            refine wpQuiet_nil ?_
            intro W2 hw'
            have hb2 := below_of_cls hw'
            clear hw'
            go_wp2_with fail
            go_ret
            exact ⟨ret_int (holds_step hlt hst'.out).symm, hba.trans (hb2.mono hba.size)⟩
    · obtain rfl : k = l.length := by omega
      have hfin := Lib.hid (holds_all hall)
      go_wp2_with fail
      go_ret
      exact ⟨ret_int hfin.out.symm, hbw⟩

set_option maxHeartbeats 1000000 in
theorem rCheckHolds (w : World) (v : Value) (l : List Hold) (hv : Sl cHold w w.heap.size v l) :
    Calls Try.prog 79 #[v] w fun e w' => e = .returned (.int .i64 (checkHolds l)) ∧ Below w.heap.size w w' := by
  obtain ⟨A, c, rfl, hl, hA⟩ := hv
  go_enter Try.func79, Try.ntmps79
  go_wp2_with fail
  go_loopw [3] (fun i wr => ∃ k : Nat, k ≤ l.length ∧ i = .int .i64 k ∧ (∀ j, j < k → stepOk l j = true) ∧ Below w.heap.size w wr) (fun i _ => l.length - (intOf i).toNat)
  case atStart => exact ⟨0, Nat.zero_le _, rfl, fun j hj => by omega, Below.refl _ _⟩
  case round =>
    obtain ⟨k, hk, rfl, hall, hbw⟩ := hrel
    by_cases hlt : k < l.length
    · obtain ⟨hok, hAb, b0, b1, b2, b3⟩ := (hA.up hbw hbw.size).hold hlt
      have qA := fun o d os => cells_wld (w := wr) (b := ablk A) hAb o d os
      cases hf : holdFine (hold l k)
      · go_wp2_with fail
        refine wp_region_wld (by kernel_rfl) (by kernel_rfl) ?_
        repeat (go_big_quiet_step ((go_at_call 112; refine calls_wld (rHoldFine (hold l k) _))))
        refine wpQuiet_nil ?_
        intro W2 hw'
        have hb2 := below_of_cls hw'
        clear hw'
        go_wp2_with fail
        go_ret
        exact ⟨ret_int (holds_step hlt (step_no hf)).symm, hbw.trans (hb2.mono hbw.size)⟩
      · rcases k with _ | m
        · have hst := step_zero hf
          simp only [Nat.zero_mul, Nat.add_zero] at b0 b1 b2 b3
          go_wp2_with fail
          refine wp_region_wld (by kernel_rfl) (by kernel_rfl) ?_
          repeat (go_big_quiet_step ((go_at_call 112; refine calls_wld (rHoldFine (hold l 0) _))))
          refine wpQuiet_nil ?_
          intro W2 hw'
          have hb2 := below_of_cls hw'
          clear hw'
          go_wp2_with fail
          go_roundw
          case rel => exact ⟨1, by omega, by go_num, fun j hj => by (obtain rfl : j = 0 := by omega); exact hst, hbw.trans (hb2.mono hbw.size)⟩
          case measure => simp [intOf]; omega
        · obtain ⟨_, _, c0, c1, c2, c3⟩ := (hA.up hbw hbw.size).hold (show m < l.length by omega)
          have hst := step_succ hf
          have hk0 := (fine_iff.1 (step_fine (hall m (by omega)))).1
          have hk1 := (fine_iff.1 hf).1
          have hK0 := Lib.hid hk0
          have hK1 := Lib.hid hk1
          clear hk0 hk1
          by_cases ho : place (hold l m) < place (hold l (m + 1))
          · have hst' := Lib.hid (show stepOk l (m + 1) = true by rw [hst]; simpa using ho)
            clear hst
            go_wp2_with fail
            refine wp_region_wld (by kernel_rfl) (by kernel_rfl) ?_
            repeat (go_big_quiet_step ((first | (go_at_call 112; refine calls_wld (rHoldFine (hold l (m + 1)) _)) | (go_at_call 113; refine calls_wld (rPlace _ _ (by first | exact hK0.out | exact hK1.out))))))
            refine wpQuiet_nil ?_
            intro W2 hw'
            have hb2 := below_of_cls hw'
            clear hw'
            go_wp2_with fail
            go_roundw
            case rel =>
              refine ⟨m + 2, by omega, by go_num, fun j hj => ?_, hbw.trans (hb2.mono hbw.size)⟩
              rcases Nat.lt_succ_iff_lt_or_eq.1 hj with h | rfl
              · exact hall j h
              · exact hst'.out
            case measure => simp [intOf]; omega
          · have hst' := Lib.hid (show stepOk l (m + 1) = false by rw [hst]; simpa using ho)
            have ho' : place (hold l (m + 1)) ≤ place (hold l m) := by omega
            clear hst ho
            go_wp2_with fail
            refine wp_region_wld (by kernel_rfl) (by kernel_rfl) ?_
            repeat (go_big_quiet_step ((first | (go_at_call 112; refine calls_wld (rHoldFine (hold l (m + 1)) _)) | (go_at_call 113; refine calls_wld (rPlace _ _ (by first | exact hK0.out | exact hK1.out))))))
            refine wpQuiet_nil ?_
            intro W2 hw'
            have hb2 := below_of_cls hw'
            clear hw'
            go_wp2_with fail
            go_ret
            exact ⟨ret_int (holds_step hlt hst'.out).symm, hbw.trans (hb2.mono hbw.size)⟩
    · obtain rfl : k = l.length := by omega
      have hfin := Lib.hid (holds_all hall)
      go_wp2_with fail
      go_ret
      exact ⟨ret_int hfin.out.symm, hbw⟩
end Wh
namespace Wh
open Go Go.RowKit Go.Shelf Go.Proofs
attribute [local go_sem] run_indexAt_letter
theorem keptAt_hit {l : List Hold} {o ln b : Int} {k : Nat} (hk : k < l.length) (h : sameKey o ln b (hold l k) = true) (hn : ∀ j, j < k → sameKey o ln b (hold l j) = false) : keptAt l o ln b = (hold l k).n := by
  unfold keptAt
  have : l.find? (sameKey o ln b) = some (hold l k) := by
    rw [List.find?_eq_some_iff_getElem]
    refine ⟨h, k, hk, (hold_get hk).symm, fun j hj => ?_⟩
    have := hn j hj
    rw [hold_get (by omega)] at this
    rw [this]; rfl
  rw [this]
theorem keptAt_miss {l : List Hold} {o ln b : Int} (hn : ∀ j, j < l.length → sameKey o ln b (hold l j) = false) : keptAt l o ln b = 0 := by
  refine keptAt_none fun x hx hk => ?_
  obtain ⟨i, hi, rfl⟩ := List.getElem_of_mem hx
  have h := hn i hi
  rw [hold_get hi, sameKey_iff.2 hk] at h
  cases h
theorem key_cases (o ln b : Int) (h : Hold) : ((h.order == o) = false ∧ sameKey o ln b h = false) ∨ ((h.order == o) = true ∧ (h.line == ln) = false ∧ sameKey o ln b h = false) ∨
    ((h.order == o) = true ∧ (h.line == ln) = true ∧ (h.bin == b) = false ∧ sameKey o ln b h = false) ∨ ((h.order == o) = true ∧ (h.line == ln) = true ∧ (h.bin == b) = true ∧ sameKey o ln b h = true) := by
  unfold sameKey
  by_cases h1 : h.order = o <;> by_cases h2 : h.line = ln <;> by_cases h3 : h.bin = b <;> simp [h1, h2, h3]

set_option maxHeartbeats 1000000 in
theorem rKeptAt (w : World) (v : Value) (l : List Hold) (o ln b : Int) (hv : Sl cHold w w.heap.size v l) :
    Calls Try.prog 80 #[v, .int .i64 o, .int .i64 ln, .int .i64 b] w fun e w' => e = .returned (.int .i64 (keptAt l o ln b)) ∧ w = w' := by
  obtain ⟨A, c, rfl, hl, hA⟩ := hv
  go_enter Try.func80, Try.ntmps80
  go_wp2_with fail
  go_loop [9] (fun i => ∃ k : Nat, k ≤ l.length ∧ i = .int .i64 k ∧ (∀ j, j < k → sameKey o ln b (hold l j) = false)) (fun i => l.length - (intOf i).toNat)
  case atStart => exact ⟨0, Nat.zero_le _, rfl, fun j hj => by omega⟩
  case round =>
    obtain ⟨k, hk, rfl, hall⟩ := hrel
    have hall' := Lib.hid hall
    clear hall
    by_cases hlt : k < l.length
    · obtain ⟨hok, hAb, b0, b1, b2, b3⟩ := hA.hold hlt
      rcases key_cases o ln b (hold l k) with ⟨g1, hs⟩ | ⟨g1, g2, hs⟩ | ⟨g1, g2, g3, hs⟩ | ⟨g1, g2, g3, hs⟩
      · have hs' := Lib.hid hs
        clear hs
        go_wp2_with fail
        go_round
        case rel =>
          refine ⟨k + 1, by omega, by go_num, fun j hj => ?_⟩
          rcases Nat.lt_succ_iff_lt_or_eq.1 hj with h | rfl
          · exact hall'.out j h
          · exact hs'.out
        case measure => simp [intOf]; omega
      · have hs' := Lib.hid hs
        clear hs
        go_wp2_with fail
        go_round
        case rel =>
          refine ⟨k + 1, by omega, by go_num, fun j hj => ?_⟩
          rcases Nat.lt_succ_iff_lt_or_eq.1 hj with h | rfl
          · exact hall'.out j h
          · exact hs'.out
        case measure => simp [intOf]; omega
      · have hs' := Lib.hid hs
        clear hs
        go_wp2_with fail
        go_round
        case rel =>
          refine ⟨k + 1, by omega, by go_num, fun j hj => ?_⟩
          rcases Nat.lt_succ_iff_lt_or_eq.1 hj with h | rfl
          · exact hall'.out j h
          · exact hs'.out
        case measure => simp [intOf]; omega
      · have hfin := Lib.hid (keptAt_hit hlt hs hall'.out)
        clear hs
        go_wp2_with fail
        go_ret
        exact ⟨ret_int hfin.out.symm, rfl⟩
    · obtain rfl : k = l.length := by omega
      have hfin := Lib.hid (keptAt_miss hall'.out)
      go_wp2_with fail
      go_ret
      exact ⟨ret_int hfin.out.symm, rfl⟩

set_option maxHeartbeats 1000000 in
theorem rKeptOf (w : World) (v : Value) (l : List Hold) (o ln : Int) (hv : Sl cHold w w.heap.size v l) (hok : holdsOk l = true) :
    Calls Try.prog 49 #[v, .int .i64 o, .int .i64 ln] w fun e w' => e = .returned (.int .i64 (kept l o ln)) ∧ w = w' := by
  have hV := hv
  obtain ⟨A, c, rfl, hl, hA⟩ := hv
  obtain ⟨g1, g2⟩ := holdsOk_iff.1 hok
  have hr := fun b => keptAt_range g1 g2 o ln b
  have hfin := Lib.hid (kept_bins hok o ln)
  have hr' := Lib.hid hr
  clear hok g1 g2 hr
  go_enter Try.func49, Try.ntmps49
  go_wp2_with fail
  go_loop [7, 8] (fun n i => ∃ k : Nat, k ≤ 6 ∧ i = .int .i64 k ∧ n = .int .i64 (sumTo (fun b => keptAt l o ln b) k)) (fun _ i => 6 - (intOf i).toNat)
  case atStart => exact ⟨0, by omega, rfl, rfl⟩
  case round =>
    obtain ⟨k, hk, rfl, rfl⟩ := hrel
    obtain ⟨u1, u2⟩ := sumTo_bounds (f := fun b => keptAt l o ln b) (n := k) (m := 200) (fun j _ => hr'.out j)
    have u3 : sumTo (fun b => keptAt l o ln b) k ≤ 1200 := by omega
    clear u2
    by_cases hlt : k < 6
    · obtain ⟨q1, q2⟩ := hr'.out k
      go_wp2_with fail
      refine (rKeptAt _ _ _ _ _ _ hV).mono ?_
      rintro e w' ⟨rfl, rfl⟩
      go_wp2_with fail
      go_round
      case rel => exact ⟨k + 1, by omega, by go_num, rfl⟩
      case measure => simp [intOf]; omega
    · obtain rfl : k = 6 := by omega
      go_wp2_with fail
      go_ret
      exact ⟨ret_int hfin.out.symm, rfl⟩

theorem line_cases (o ln : Int) (h : Hold) : ((h.order == o) = false ∧ sameLine o ln h = false) ∨ ((h.order == o) = true ∧ (h.line == ln) = false ∧ sameLine o ln h = false) ∨
    ((h.order == o) = true ∧ (h.line == ln) = true ∧ sameLine o ln h = true) := by
  unfold sameLine
  by_cases h1 : h.order = o <;> by_cases h2 : h.line = ln <;> simp [h1, h2]
def keptTo (l : List Hold) (o ln : Int) (k : Nat) : Int := kept (l.take k) o ln
theorem keptTo_yes {l : List Hold} {o ln : Int} {k : Nat} (hk : k < l.length) (h : sameLine o ln (hold l k) = true) : keptTo l o ln (k + 1) = keptTo l o ln k + (hold l k).n := by
  unfold keptTo kept
  rw [List.take_succ_eq_append_getElem hk, List.filter_append, ← hold_get hk, List.filter_cons, h]
  simp
theorem keptTo_no {l : List Hold} {o ln : Int} {k : Nat} (hk : k < l.length) (h : sameLine o ln (hold l k) = false) : keptTo l o ln (k + 1) = keptTo l o ln k := by
  unfold keptTo kept
  rw [List.take_succ_eq_append_getElem hk, List.filter_append, ← hold_get hk, List.filter_cons, h]
  simp
theorem ok_take {l : List Hold} (h : holdsOk l = true) (k : Nat) : holdsOk (l.take k) = true := by
  obtain ⟨g1, g2⟩ := holdsOk_iff.1 h
  exact holdsOk_iff.2 ⟨fun x hx => g1 x (List.mem_of_mem_take hx), g2.sublist (List.take_sublist k l)⟩
theorem check_ok {l : List Hold} : checkHolds l = 0 ↔ holdsOk l = true := by
  unfold checkHolds
  cases holdsOk l <;> simp

set_option maxHeartbeats 1000000 in
theorem hdKept (w : World) (v : Value) (l : List Hold) (o ln : Int) (hv : Sl cHold w w.heap.size v l) :
    Calls Try.prog 43 #[v, .int .i64 o, .int .i64 ln] w fun e w' => e = .returned (.tuple #[.int .i64 (keptE l o ln).1, .int .i64 (keptE l o ln).2]) ∧ Below w.heap.size w w' := by
  have hV := hv
  obtain ⟨A, c, rfl, hl, hA⟩ := hv
  go_enter Try.func43, Try.ntmps43
  go_wp2_with fail
  refine (hdCheck _ _ _ hV).mono ?_
  rintro e W1 ⟨rfl, hb1⟩
  cases hok : holdsOk l
  · have hc : checkHolds l = 1 := by unfold checkHolds; rw [hok]; rfl
    have hk : keptE l o ln = (0, 1) := by unfold keptE; rw [hok]; rfl
    have hk' := Lib.hid hk
    rw [hc]
    clear hc hk
    go_wp2_with fail
    go_ret2
    exact ⟨ret2 (by rw [hk'.out]; rfl) (by rw [hk'.out]; rfl), hb1⟩
  · have hc : checkHolds l = 0 := check_ok.2 hok
    have hk : keptE l o ln = (kept l o ln, 0) := by unfold keptE; rw [hok]; rfl
    have hrg := fun k => kept_range (ok_take hok k) o ln
    have hrg' := Lib.hid hrg
    have hk' := Lib.hid hk
    rw [hc]
    clear hc hk hok hrg
    go_wp2_with fail
    go_loopw [9, 19, 11] (fun n i _ wr => ∃ k : Nat, k ≤ l.length ∧ i = .int .i64 k ∧ n = .int .i64 (keptTo l o ln k) ∧ Below W1.heap.size W1 wr) (fun _ i _ _ => l.length - (intOf i).toNat)
    case atStart => exact ⟨0, Nat.zero_le _, rfl, rfl, Below.refl _ _⟩
    case round =>
      obtain ⟨k, hk, rfl, rfl, hbw⟩ := hrel
      obtain ⟨u1, u2⟩ := hrg'.out k
      change 0 ≤ keptTo l o ln k at u1
      change keptTo l o ln k ≤ 1200 at u2
      by_cases hlt : k < l.length
      · have hb01 := hb1.trans (hbw.mono hb1.size)
        obtain ⟨hok, hAb, b0, b1, b2, b3⟩ := (hA.up hb01 hb01.size).hold hlt
        obtain ⟨u3, u4⟩ := hrg'.out (k + 1)
        change 0 ≤ keptTo l o ln (k + 1) at u3
        change keptTo l o ln (k + 1) ≤ 1200 at u4
        rcases line_cases o ln (hold l k) with ⟨g1, hs⟩ | ⟨g1, g2, hs⟩ | ⟨g1, g2, hs⟩
        · have hs' := Lib.hid (keptTo_no hlt hs)
          clear hs
          go_wp2_with fail
          go_roundw
          case rel => exact ⟨k + 1, by omega, by go_num, by rw [hs'.out], hbw.alloc hbw.size _⟩
          case measure => simp [intOf]; omega
        · have hs' := Lib.hid (keptTo_no hlt hs)
          clear hs
          go_wp2_with fail
          go_roundw
          case rel => exact ⟨k + 1, by omega, by go_num, by rw [hs'.out], hbw.alloc hbw.size _⟩
          case measure => simp [intOf]; omega
        · have hs' := Lib.hid (keptTo_yes hlt hs)
          rw [hs'.out] at u3 u4
          clear hs
          go_wp2_with fail
          go_roundw
          case rel => exact ⟨k + 1, by omega, by go_num, by rw [hs'.out], hbw.alloc hbw.size _⟩
          case measure => simp [intOf]; omega
      · obtain rfl : k = l.length := by omega
        have hfin := Lib.hid (show keptTo l o ln l.length = kept l o ln by unfold keptTo; rw [List.take_length])
        go_wp2_with fail
        go_ret2
        exact ⟨ret2 (by rw [hk'.out, ← hfin.out]; rfl) (by rw [hk'.out]; rfl), hb1.trans (hbw.mono hb1.size)⟩

end Wh
namespace Wh
open Go Go.RowKit Go.Shelf Go.Proofs
attribute [local go_sem] run_indexAt_letter
theorem SlSl.nil {w : World} {B : Nat} : SlSl cInt w B (.slice none 0 0) [] := ⟨none, 0, [], rfl, by simp, rfl, At.nil, fun i x h => by simp at h⟩
end Wh
namespace Wh
open Go Go.RowKit Go.Shelf Go.Proofs
attribute [local go_sem] run_indexAt_letter
set_option maxHeartbeats 1000000 in
theorem lYard (w : World) : Calls Try.prog 50 #[] w (Gives (fun u w' => PlanV w' w'.heap.size u yardP) w) := by
  go_enter Try.func50, Try.ntmps50
  go_wp2_with fail
  refine bodyPost_ret (v := .agg #[.slice (some ⟨w.heap.size + 1, 0, none⟩) 3 3, .slice (some ⟨w.heap.size + 1 + 1, 0, none⟩) 2 2]) (by simp [results, Try.results50, go_sem]) rfl ?_
  have b1 := Own.lit (base := 0) (enc := cBin) (size := 4) (w.alloc (.cells #[.slice (some ⟨w.heap.size + 1, 0, none⟩) 3 3, .slice (some ⟨w.heap.size + 1 + 1, 0, none⟩) 2 2] 25)) 59
    #[.bool false, .int .i64 100, .int .i64 0, .int .i64 0, .bool true, .int .i64 30, .int .i64 4, .int .i64 8, .bool false, .int .i64 60, .int .i64 0, .int .i64 0] yardP.bins (Nat.zero_le _) (by decide) (fun _ => rfl) rfl
  have b2 := b1.alloc (.cells #[.int .i64 2, .int .i64 3] 3)
  have b3 := Own.lit (base := 0) (enc := cInt) (size := 1) ((w.alloc (.cells #[.slice (some ⟨w.heap.size + 1, 0, none⟩) 3 3, .slice (some ⟨w.heap.size + 1 + 1, 0, none⟩) 2 2] 25)).alloc
    (.cells #[.bool false, .int .i64 100, .int .i64 0, .int .i64 0, .bool true, .int .i64 30, .int .i64 4, .int .i64 8, .bool false, .int .i64 60, .int .i64 0, .int .i64 0] 59)) 3 #[.int .i64 2, .int .i64 3] yardP.sizes (Nat.zero_le _) (by decide) (fun _ => rfl) rfl
  simp only [World.size_alloc] at b2 b3
  exact ⟨_, rfl, ⟨_, _, rfl, b2.sl (by decide), b3.sl (by decide)⟩, (((Below.refl _ _).alloc (Nat.le_refl _) _).alloc (by simp) _).alloc (by simp; omega) _⟩

end Wh
namespace Wh
open Go Go.RowKit Go.Shelf Go.Proofs
attribute [local go_sem] run_indexAt_letter
theorem Sl.len {α : Type} {enc : α → List Value} {w : World} {B : Nat} {v : Value} {l : List α} (h : Sl enc w B v l) : l.length ≤ 140737488355232 := let ⟨_, _, _, h, _⟩ := h; h
end Wh
