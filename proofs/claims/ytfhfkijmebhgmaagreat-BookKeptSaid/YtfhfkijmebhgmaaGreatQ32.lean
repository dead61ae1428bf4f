/- Texts of the claim, joined: BookA, PlainQ, LogA. -/
import Derived.StillTailTactics
import Derived.Test.YtfhfkijmebhgmaaGreatQ09
import Derived.Test.YtfhfkijmebhgmaaGreatQ26
import Derived.Test.YtfhfkijmebhgmaaGreatQ18
import Derived.Test.YtfhfkijmebhgmaaGreatQ21
import Derived.Test.YtfhfkijmebhgmaaGreatQ22
import Derived.Test.YtfhfkijmebhgmaaGreatQ13
import Derived.Test.YtfhfkijmebhgmaaGreatQ07
import Derived.Test.YtfhfkijmebhgmaaGreatQ15
import Derived.Test.YtfhfkijmebhgmaaGreatQ19
import Derived.Test.YtfhfkijmebhgmaaGreatQ17
import Derived.Test.YtfhfkijmebhgmaaGreatQ16
import Derived.Test.YtfhfkijmebhgmaaGreatQ03
import Derived.Test.YtfhfkijmebhgmaaGreatQ06
import Derived.Test.YtfhfkijmebhgmaaGreatQ08
import Derived.Test.YtfhfkijmebhgmaaGreatQ20
import Derived.Test.YtfhfkijmebhgmaaGreatQ23
import Derived.Test.YtfhfkijmebhgmaaGreatQ25
import Derived.Test.YtfhfkijmebhgmaaGreatQ31
namespace Wh

def heldG (s : State) (g : Int) (o k : Nat) : Int := if (s.line o k).good = g then kept s.holds o k else 0
def backG (s : State) (g : Int) (o k : Nat) : Int := if (s.line o k).good = g then (s.line o k).back else 0
def gotG (s : State) (g : Int) (o k : Nat) : Int := if (s.line o k).good = g then (s.line o k).got else 0
/-- What is summed over all orders ahead of o, and the lines of o ahead of k. -/
def ovTo (F : Nat → Nat → Int) (s : State) (o k : Nat) : Int := sumTo (fun i => sumTo (F i) (s.order i).lines.length) o + sumTo (F o) k
def tot (s : State) (g : Int) (o k : Nat) : Total := ⟨sumOf s.on g.toNat, ovTo (heldG s g) s o k, ovTo (backG s g) s o k, ovTo (gotG s g) s o k⟩
def totsTo (s : State) (n o k : Nat) : List Total := (List.range n).map fun g : Nat => tot s g o k
def dTotal : Total := ⟨0, 0, 0, 0⟩
def onsTo (s : State) (n q : Nat) : List Total := (List.range n).map fun g : Nat => if g < q then tot s g 0 0 else dTotal
def totalsF (p : Plan) (s : State) : List Total := totsTo s p.sizes.length s.orders.length 0
def openTo (s : State) (k : Nat) : Int := sumTo (fun o => if (orderAt s.orders o).kind = 2 then 0 else 1) k

theorem ovTo_line (F : Nat → Nat → Int) (s : State) (o k : Nat) : ovTo F s o (k + 1) = ovTo F s o k + F o k := by
  show _ + (sumTo (F o) k + F o k) = _
  unfold ovTo
  omega
theorem ovTo_order (F : Nat → Nat → Int) (s : State) (o : Nat) : ovTo F s (o + 1) 0 = ovTo F s o (s.order o).lines.length := by
  show (sumTo _ o + sumTo (F o) (s.order o).lines.length) + 0 = _
  unfold ovTo
  omega
theorem ovTo_range {p : Plan} {s : State} (hs : Sane p s) {F : Nat → Nat → Int} (hF : ∀ i k, i < s.orders.length → k < (s.order i).lines.length → 0 ≤ F i k ∧ F i k ≤ 1200) {o k : Nat} (ho : o < s.orders.length) (hk : k ≤ (s.order o).lines.length) :
    0 ≤ ovTo F s o k ∧ ovTo F s o k ≤ 20000 := by
  have h4 := hs.orders4
  have h3 := hs.lines3 ho
  have a := sumTo_bounds (f := F o) (n := k) (m := 1200) (fun j hj => hF o j ho (by omega))
  have b := sumTo_bounds (f := fun i => sumTo (F i) (s.order i).lines.length) (n := o) (m := 3600) (fun i hi => by
    have h3' := hs.lines3 (o := i) (by omega)
    have := sumTo_bounds (f := F i) (n := (s.order i).lines.length) (m := 1200) (fun j hj => hF i j (by omega) hj)
    omega)
  unfold ovTo
  omega
theorem heldG_range {p : Plan} {s : State} (hs : Sane p s) (g : Int) (i k : Nat) (_ : i < s.orders.length) (_ : k < (s.order i).lines.length) : 0 ≤ heldG s g i k ∧ heldG s g i k ≤ 1200 := by
  have := kept_range hs.holds i k
  unfold heldG
  split <;> omega
theorem backG_range {p : Plan} {s : State} (hs : Sane p s) (g : Int) (i k : Nat) (hi : i < s.orders.length) (hk : k < (s.order i).lines.length) : 0 ≤ backG s g i k ∧ backG s g i k ≤ 1200 := by
  have := hs.line hi hk
  unfold backG
  split <;> omega
theorem gotG_range {p : Plan} {s : State} (hs : Sane p s) (g : Int) (i k : Nat) (hi : i < s.orders.length) (hk : k < (s.order i).lines.length) : 0 ≤ gotG s g i k ∧ gotG s g i k ≤ 1200 := by
  have := hs.line hi hk
  unfold gotG
  split <;> omega
theorem tot_range {p : Plan} {s : State} (hs : Sane p s) (g : Int) {o k : Nat} (ho : o < s.orders.length) (hk : k ≤ (s.order o).lines.length) :
    (0 ≤ (tot s g o k).held ∧ (tot s g o k).held ≤ 20000) ∧ (0 ≤ (tot s g o k).back ∧ (tot s g o k).back ≤ 20000) ∧ (0 ≤ (tot s g o k).got ∧ (tot s g o k).got ≤ 20000) :=
  ⟨ovTo_range hs (heldG_range hs g) ho hk, ovTo_range hs (backG_range hs g) ho hk, ovTo_range hs (gotG_range hs g) ho hk⟩
theorem tot_line (s : State) (g : Int) (o k : Nat) : tot s g o (k + 1) = if (s.line o k).good = g then ⟨(tot s g o k).on, (tot s g o k).held + kept s.holds o k, (tot s g o k).back + (s.line o k).back, (tot s g o k).got + (s.line o k).got⟩ else tot s g o k := by
  unfold tot
  rw [ovTo_line, ovTo_line, ovTo_line]
  unfold heldG backG gotG
  split
  · rfl
  · simp
theorem tot_order (s : State) (g : Int) (o : Nat) : tot s g (o + 1) 0 = tot s g o (s.order o).lines.length := by
  unfold tot
  rw [ovTo_order, ovTo_order, ovTo_order]
theorem totsTo_length (s : State) (n o k : Nat) : (totsTo s n o k).length = n := by simp [totsTo]
theorem totsTo_get (s : State) (n o k : Nat) {g : Nat} (hg : g < (totsTo s n o k).length) : (totsTo s n o k)[g] = tot s g o k := by simp [totsTo]
theorem onsTo_length (s : State) (n q : Nat) : (onsTo s n q).length = n := by simp [onsTo]
theorem onsTo_get (s : State) (n q : Nat) {g : Nat} (hg : g < (onsTo s n q).length) : (onsTo s n q)[g] = if g < q then tot s g 0 0 else dTotal := by simp [onsTo]
theorem totsTo_line (s : State) (n o k : Nat) {g : Nat} (h : (s.line o k).good = g) (hg : g < n) : totsTo s n o (k + 1) = (totsTo s n o k).set g ⟨(tot s g o k).on, (tot s g o k).held + kept s.holds o k, (tot s g o k).back + (s.line o k).back, (tot s g o k).got + (s.line o k).got⟩ := by
  apply List.ext_getElem?
  intro i
  rw [List.getElem?_set]
  unfold totsTo
  by_cases hi : g = i
  · subst hi
    simp only [List.length_map, List.length_range, hg, if_true]
    simp only [List.getElem?_map, List.getElem?_range hg, Option.map_some]
    rw [tot_line, if_pos h]
  · rw [if_neg hi]
    simp only [List.getElem?_map]
    by_cases hin : i < n
    · rw [List.getElem?_range hin]
      simp only [Option.map_some]
      rw [tot_line, if_neg (by rw [h]; omega)]
    · rw [List.getElem?_eq_none (by simp; omega)]
      rfl
theorem totsTo_order (s : State) (n o : Nat) : totsTo s n (o + 1) 0 = totsTo s n o (s.order o).lines.length := by
  unfold totsTo
  exact List.map_congr_left fun g _ => tot_order s g o
theorem onsTo_zero (s : State) (n : Nat) : onsTo s n 0 = List.replicate n dTotal := by
  apply List.ext_getElem
  · simp [onsTo]
  · intro i h1 h2
    rw [onsTo_get]
    simp
theorem onsTo_succ (s : State) (n q : Nat) (hq : q < n) : onsTo s n (q + 1) = (onsTo s n q).set q ⟨sumOf s.on q, 0, 0, 0⟩ := by
  apply List.ext_getElem?
  intro i
  rw [List.getElem?_set, onsTo_length]
  unfold onsTo
  by_cases hi : q = i
  · subst hi
    simp only [if_true, hq]
    simp only [List.getElem?_map, List.getElem?_range hq, Option.map_some]
    rw [if_pos (by omega)]
    rfl
  · rw [if_neg hi]
    simp only [List.getElem?_map]
    by_cases hin : i < n
    · rw [List.getElem?_range hin]
      simp only [Option.map_some]
      congr 1
      by_cases h2 : i < q
      · rw [if_pos (by omega), if_pos h2]
      · rw [if_neg (by omega), if_neg h2]
    · rw [List.getElem?_eq_none (by simp; omega)]
      rfl
theorem onsTo_all (s : State) (n : Nat) : onsTo s n n = totsTo s n 0 0 := by
  unfold onsTo totsTo
  refine List.map_congr_left fun g hg => ?_
  rw [if_pos (List.mem_range.1 hg)]
theorem openTo_succ (s : State) (k : Nat) : openTo s (k + 1) = openTo s k + if (orderAt s.orders k).kind = 2 then 0 else 1 := rfl
theorem openTo_range (s : State) (k : Nat) : 0 ≤ openTo s k ∧ openTo s k ≤ k := by
  have := sumTo_bounds (f := fun o => if (orderAt s.orders o).kind = 2 then (0 : Int) else 1) (n := k) (m := 1) (fun j _ => by show 0 ≤ (if (orderAt s.orders j).kind = 2 then (0 : Int) else 1) ∧ (if (orderAt s.orders j).kind = 2 then (0 : Int) else 1) ≤ 1; split <;> omega)
  unfold openTo
  omega
def openF (s : State) : Int := openTo s s.orders.length
def openE (p : Plan) (s : State) : Int × Int := if checkState p s ≠ 0 then (0, checkState p s) else (openF s, 0)
def totalsE (p : Plan) (s : State) : List Total := if checkState p s = 0 then totalsF p s else []
theorem totalsE_bad {p : Plan} {s : State} (h : checkState p s ≠ 0) : totalsE p s = [] := by unfold totalsE; rw [if_neg h]
theorem totalsE_ok {p : Plan} {s : State} (h : checkState p s = 0) : totalsE p s = totalsF p s := by unfold totalsE; rw [if_pos h]
theorem openE_bad {p : Plan} {s : State} (h : checkState p s ≠ 0) : openE p s = (0, checkState p s) := by unfold openE; rw [if_pos h]
theorem openE_ok {p : Plan} {s : State} (h : checkState p s = 0) : openE p s = (openF s, 0) := by unfold openE; rw [if_neg (fun hn => hn h)]
end Wh
namespace Wh

def act (p : Plan) (s : State) (x : Deed) : State × Int :=
  if x.kind = 1 then receive p s x.a x.b x.n
  else if x.kind = 2 then enter p s x.lines
  else if x.kind = 3 then release p s
  else if x.kind = 4 then cancel p s x.a
  else if x.kind = 5 then pick p s x.a x.b x.c x.n
  else if x.kind = 6 then fill p s
  else if x.kind = 7 then moved p s x.a x.n
  else if x.kind = 8 then count p s x.a x.b x.n
  else (dState, 8)

-- what was got of a good, in all
def gotOf (s : State) (g : Int) : Int := ovTo (gotG s g) s s.orders.length 0
theorem ovTo_congr {F G : Nat → Nat → Int} {s t : State} {n : Nat} (hl : ∀ o, o < n → (t.order o).lines.length = (s.order o).lines.length) (hF : ∀ o k, o < n → k < (s.order o).lines.length → G o k = F o k) : ovTo G t n 0 = ovTo F s n 0 := by
  unfold ovTo
  congr 1
  refine sumTo_congr fun o ho => ?_
  rw [hl o ho]
  exact sumTo_congr fun k hk => hF o k ho hk
theorem gotOf_same {s t : State} (h : t.orders.length = s.orders.length) (hl : ∀ o, o < s.orders.length → (t.order o).lines.length = (s.order o).lines.length)
    (hg : ∀ o k, o < s.orders.length → k < (s.order o).lines.length → (t.line o k).good = (s.line o k).good ∧ (t.line o k).got = (s.line o k).got) (g : Int) : gotOf t g = gotOf s g := by
  unfold gotOf
  rw [h]
  refine ovTo_congr hl fun o k ho hk => ?_
  obtain ⟨h1, h2⟩ := hg o k ho hk
  unfold gotG
  rw [h1, h2]
theorem ovTo_one {F G : Nat → Nat → Int} {s t : State} {n i j : Nat} {d : Int} (hl : ∀ o, o < n → (t.order o).lines.length = (s.order o).lines.length) (hi : i < n) (hj : j < (s.order i).lines.length)
    (hF : ∀ o k, o < n → k < (s.order o).lines.length → ¬ (o = i ∧ k = j) → G o k = F o k) (hd : G i j = F i j + d) : ovTo G t n 0 = ovTo F s n 0 + d := by
  have := sumTo_one (f := fun o => sumTo (F o) (s.order o).lines.length) (g := fun o => sumTo (G o) (t.order o).lines.length) (n := n) (i := i) (d := d) hi (fun o ho hne => by
    show sumTo (G o) (t.order o).lines.length = sumTo (F o) (s.order o).lines.length
    rw [hl o ho]
    exact sumTo_congr fun k hk => hF o k ho hk (fun h => hne h.1)) (by
    show sumTo (G i) (t.order i).lines.length = sumTo (F i) (s.order i).lines.length + d
    rw [hl i hi]
    exact sumTo_one hj (fun k hk hne => hF i k hi hk (fun h => hne h.2)) hd)
  unfold ovTo
  rw [this]
  show _ + 0 = _ + 0 + d
  omega
/-- An act leaves what went and what was got alike. -/
structure Kept (p : Plan) (s t : State) : Prop where
  check : checkState p t = 0
  went : ∀ g, g < p.sizes.length → intAt t.out g - intAt s.out g = gotOf t g - gotOf s g ∧ gotOf s g ≤ gotOf t g

section
variable {p : Plan} {s : State}
theorem receive_kept {b g n : Int} (h : (receive p s b g n).2 = 0) : Kept p s (receive p s b g n).1 := by
  refine ⟨(receive_true h).1, fun k hk => ?_⟩
  obtain ⟨_, _, _, _, _, _, _, e⟩ := receive_right h
  rw [e]
  have : gotOf { s with on := setCell s.on b.toNat g.toNat (cell s.on b.toNat g.toNat + n), inn := s.inn.set g.toNat (intAt s.inn g.toNat + n) } k = gotOf s k := gotOf_same rfl (fun _ _ => rfl) (fun _ _ _ _ => ⟨rfl, rfl⟩) k
  rw [this]
  exact ⟨by show intAt s.out k - intAt s.out k = _; omega, Int.le_refl _⟩
theorem enter_kept {l : List Line} (h : (enter p s l).2 = 0) : Kept p s (enter p s l).1 := by
  refine ⟨(enter_true h).1, fun g hg => ?_⟩
  obtain ⟨_, _, _, hl, e⟩ := enter_right h
  rw [e]
  have hor : ∀ o, o < s.orders.length → ({ s with orders := s.orders ++ [⟨0, l⟩] } : State).order o = s.order o := fun o ho => by
    unfold State.order orderAt
    simp [ho, List.getElem?_append_left]
  have hnew : ({ s with orders := s.orders ++ [⟨0, l⟩] } : State).order s.orders.length = ⟨0, l⟩ := by
    unfold State.order orderAt
    simp
  have e1 : gotOf { s with orders := s.orders ++ [⟨0, l⟩] } g = gotOf s g := by
    unfold gotOf
    have hlen : ({ s with orders := s.orders ++ [⟨0, l⟩] } : State).orders.length = s.orders.length + 1 := by simp
    rw [hlen, ovTo_order]
    have e2 := ovTo_congr (F := gotG s g) (G := gotG { s with orders := s.orders ++ [⟨0, l⟩] } g) (s := s) (t := { s with orders := s.orders ++ [⟨0, l⟩] }) (n := s.orders.length) (fun o ho => by rw [hor o ho]) (fun o k ho hk => by
      unfold gotG State.line
      rw [hor o ho])
    rw [← e2]
    unfold ovTo
    congr 1
    refine sumTo_zero fun k hk => ?_
    rw [hnew] at hk
    unfold gotG State.line
    rw [hnew]
    have := (hl (lineAt l k) (by rw [lineAt_eq hk]; exact List.getElem_mem hk)).2.1
    simp only
    rw [this]
    split <;> rfl
  rw [e1]
  exact ⟨by show intAt s.out g - intAt s.out g = _; omega, Int.le_refl _⟩
theorem release_kept (h : (release p s).2 = 0) : Kept p s (release p s).1 := by
  obtain ⟨hc, e⟩ := release_right h
  rw [e]
  have ht := release_taken hc
  refine ⟨release_check hc, fun g hg => ?_⟩
  have : gotOf (releaseS p s) g = gotOf s g := gotOf_same (release_len hc) (fun o ho => release_lines hc ho) (fun o k ho hk => by
    obtain ⟨a1, _, a3⟩ := ht.line o k
    rw [a1, a3, freed_line s ho hk]
    split <;> exact ⟨rfl, rfl⟩) g
  rw [this, ht.out]
  exact ⟨by show intAt s.out g - intAt s.out g = _; omega, Int.le_refl _⟩
theorem cancel_keeps {o : Int} (h : (cancel p s o).2 = 0) : Kept p s (cancel p s o).1 := by
  obtain ⟨hc, i, rfl, hi, _, e⟩ := cancel_right h
  rw [e]
  refine ⟨cancel_check hc hi, fun g hg => ?_⟩
  have : gotOf (cancelS s i) g = gotOf s g := gotOf_same (cancel_len s i) (fun o _ => cancel_lines hi o) (fun o k ho hk => by
    rw [cancel_line hi hk]
    split <;> exact ⟨rfl, rfl⟩) g
  rw [this]
  exact ⟨by show intAt s.out g - intAt s.out g = _; omega, Int.le_refl _⟩
theorem pick_keeps {o k b n : Int} (h : (pick p s o k b n).2 = 0) : Kept p s (pick p s o k b n).1 := by
  obtain ⟨hc, i, j, c, rfl, rfl, rfl, f, e⟩ := pick_right h
  rw [e]
  obtain ⟨h1, h2, h3, h4, h5, _⟩ := pickS_true hc f
  have hr := right_of_check hc
  have hn0 := f.n0
  refine ⟨h1, fun g hg => ?_⟩
  obtain ⟨eg, hgl⟩ := picks_good hr f
  obtain ⟨ht, _, _⟩ := pickT_held hr f
  have hgood : ((pickS p s i j c n).line i j).good = (s.line i j).good := (pickS_short hc f).2.2.1
  have hout : intAt (pickS p s i j c n).out g = intAt s.out g + if g = (s.line i j).good.toNat then n else 0 := by
    rw [pickS_eq, (close_rest _ i).2.2.2.2.1, ht.out]
    show intAt (s.out.set _ _) g = _
    rw [intAt_set (by rw [hr.sane.out.1]; exact hgl)]
    split
    · rename_i e; rw [e]
    · omega
  have hgot : gotOf (pickS p s i j c n) g = gotOf s g + if g = (s.line i j).good.toNat then n else 0 := by
    unfold gotOf
    rw [h2]
    refine ovTo_one (i := i) (j := j) (fun o _ => h3 o) f.ho f.hk (fun o' k' _ _ hne => ?_) ?_
    · unfold gotG
      rw [(h4 o' k' hne).2]
    · unfold gotG
      rw [hgood, h5]
      by_cases hq : g = (s.line i j).good.toNat
      · rw [if_pos hq, if_pos (by omega), if_pos (by omega)]
      · rw [if_neg hq, if_neg (by omega), if_neg (by omega)]
        rfl
  rw [hout, hgot]
  constructor
  · omega
  · split <;> omega
theorem fill_keeps (h : (fill p s).2 = 0) : Kept p s (fill p s).1 := by
  obtain ⟨hc, e⟩ := fill_right h
  rw [e]
  have hf := fillS_filled hc
  refine ⟨filled_check hf, fun g hg => ?_⟩
  have e1 := hf.rest
  have : gotOf (fillS p s) g = gotOf s g := by rw [e1]; exact gotOf_same rfl (fun _ _ => rfl) (fun _ _ _ _ => ⟨rfl, rfl⟩) g
  rw [this]
  have e2 : (fillS p s).out = s.out := by rw [e1]
  rw [e2]
  exact ⟨by omega, Int.le_refl _⟩
theorem moved_keeps {k n : Int} (h : (moved p s k n).2 = 0) : Kept p s (moved p s k n).1 := by
  obtain ⟨hc, i, rfl, f, e⟩ := moved_right h
  rw [e]
  refine ⟨moved_check hc f, fun g hg => ?_⟩
  have : gotOf (movedS s i n) g = gotOf s g := gotOf_same rfl (fun _ _ => rfl) (fun _ _ _ _ => ⟨rfl, rfl⟩) g
  rw [this]
  exact ⟨by show intAt s.out g - intAt s.out g = _; omega, Int.le_refl _⟩
theorem count_keeps {b g n : Int} (h : (count p s b g n).2 = 0) : Kept p s (count p s b g n).1 := by
  obtain ⟨hc, i, j, rfl, rfl, f, e⟩ := count_right h
  rw [e]
  have ht := count_took hc f
  refine ⟨count_check hc f, fun k hk => ?_⟩
  have : gotOf (countS p s i j n) k = gotOf s k := gotOf_same (count_len hc f) (fun o ho => count_lines hc f ho) (fun o k ho hk => by
    obtain ⟨a1, _, a3⟩ := ht.line o k
    rw [a1, a3, cut_line ho hk]
    exact ⟨rfl, rfl⟩) k
  rw [this, ht.out]
  exact ⟨by show intAt s.out k - intAt s.out k = _; omega, Int.le_refl _⟩
/-- Whatever act is done: what comes is right, and nothing is lost. -/
theorem act_kept {x : Deed} (h : (act p s x).2 = 0) : checkState p s = 0 ∧ Kept p s (act p s x).1 := by
  unfold act at h ⊢
  split at h
  · rename_i hk; rw [if_pos hk]; exact ⟨(receive_right h).1, receive_kept h⟩
  rename_i h1; rw [if_neg h1]
  split at h
  · rename_i hk; rw [if_pos hk]; exact ⟨(enter_right h).1, enter_kept h⟩
  rename_i h2; rw [if_neg h2]
  split at h
  · rename_i hk; rw [if_pos hk]; exact ⟨(release_right h).1, release_kept h⟩
  rename_i h3; rw [if_neg h3]
  split at h
  · rename_i hk; rw [if_pos hk]; exact ⟨(cancel_right h).1, cancel_keeps h⟩
  rename_i h4; rw [if_neg h4]
  split at h
  · rename_i hk; rw [if_pos hk]; exact ⟨(pick_right h).1, pick_keeps h⟩
  rename_i h5; rw [if_neg h5]
  split at h
  · rename_i hk; rw [if_pos hk]; exact ⟨(fill_right h).1, fill_keeps h⟩
  rename_i h6; rw [if_neg h6]
  split at h
  · rename_i hk; rw [if_pos hk]; exact ⟨(moved_right h).1, moved_keeps h⟩
  rename_i h7; rw [if_neg h7]
  split at h
  · rename_i hk; rw [if_pos hk]; exact ⟨(count_right h).1, count_keeps h⟩
  simp at h

-- what is held of a good lies there
theorem sumTo_sum {α : Type} (l : List α) (F : Nat → α → Int) (n : Nat) : sumTo (fun i => (l.map (F i)).sum) n = (l.map fun x => sumTo (fun i => F i x) n).sum := by
  induction n with
  | zero =>
    show (0 : Int) = (l.map fun _ => (0 : Int)).sum
    induction l with
    | nil => rfl
    | cons x r ih => rw [List.map_cons, List.sum_cons, ← ih]; rfl
  | succ n ih =>
    show sumTo (fun i => (l.map (F i)).sum) n + (l.map (F n)).sum = _
    rw [ih]
    clear ih
    induction l with
    | nil => rfl
    | cons x r ih =>
      rw [List.map_cons, List.sum_cons, List.map_cons, List.sum_cons, List.map_cons, List.sum_cons, ← ih]
      show _ = sumTo (fun i => F i x) n + F n x + _
      omega
theorem sumTo_at {n i : Nat} (hi : i < n) (d : Int) : sumTo (fun k => if k = i then d else 0) n = d := by
  have := sumTo_one (f := fun _ => (0 : Int)) (g := fun k => if k = i then d else 0) (n := n) (i := i) (d := d) hi (fun k _ hne => if_neg hne) (by show (if i = i then d else 0) = 0 + d; rw [if_pos rfl]; omega)
  rw [this, sumTo_zero (fun _ _ => rfl)]
  omega
theorem kept_sum (l : List Hold) (o k : Int) : Wh.kept l o k = (l.map fun h => if h.order = o ∧ h.line = k then h.n else 0).sum := by
  unfold Wh.kept
  induction l with
  | nil => rfl
  | cons x r ih =>
    rw [List.filter_cons, List.map_cons, List.sum_cons, ← ih]
    unfold sameLine
    by_cases h1 : x.order = o <;> by_cases h2 : x.line = k <;> simp [h1, h2]
theorem held_lines (hs : Sane p s) (g : Int) : ovTo (heldG s g) s s.orders.length 0 = sumTo (fun b => heldIn s b g) p.bins.length := by
  have e1 : sumTo (fun b : Nat => heldIn s b g) p.bins.length = (s.holds.map fun x => sumTo (fun b : Nat => heldN s b g x) p.bins.length).sum := sumTo_sum s.holds (fun b x => heldN s b g x) p.bins.length
  rw [e1]
  have e2 : ovTo (heldG s g) s s.orders.length 0 = sumTo (fun o => sumTo (heldG s g o) (s.order o).lines.length) s.orders.length := by unfold ovTo; exact Int.add_zero _
  have e3 : ∀ o, sumTo (heldG s g o) (s.order o).lines.length = (s.holds.map fun x => sumTo (fun k : Nat => if (s.line o k).good = g then (if x.order = (o : Int) ∧ x.line = (k : Int) then x.n else 0) else 0) (s.order o).lines.length).sum := fun o => by
    rw [← sumTo_sum s.holds (fun (k : Nat) x => if (s.line o k).good = g then (if x.order = (o : Int) ∧ x.line = (k : Int) then x.n else 0) else 0)]
    refine sumTo_congr fun k _ => ?_
    unfold heldG
    rw [kept_sum]
    split
    · rfl
    · have : ∀ l : List Hold, (0 : Int) = (l.map fun _ => (0 : Int)).sum := fun l => by
        induction l with
        | nil => rfl
        | cons x r ih => rw [List.map_cons, List.sum_cons, ← ih]; rfl
      exact this _
  rw [e2, sumTo_congr (fun o _ => e3 o), sumTo_sum s.holds (fun (o : Nat) x => sumTo (fun k : Nat => if (s.line o k).good = g then (if x.order = (o : Int) ∧ x.line = (k : Int) then x.n else 0) else 0) (s.order o).lines.length)]
  congr 1
  apply List.map_congr_left
  intro x hx
  obtain ⟨i, hi, rfl⟩ := List.getElem_of_mem hx
  have h2 := hs.holdAt hi
  rw [hold_get hi] at h2
  generalize s.holds[i] = x at h2
  obtain ⟨a, ha⟩ : ∃ a : Nat, x.order = a := ⟨x.order.toNat, by omega⟩
  obtain ⟨c, hc⟩ : ∃ c : Nat, x.line = c := ⟨x.line.toNat, by omega⟩
  obtain ⟨d, hd⟩ : ∃ d : Nat, x.bin = d := ⟨x.bin.toNat, by omega⟩
  rw [ha, hc, hd] at h2
  simp only [Int.toNat_natCast] at h2
  have e4 : sumTo (fun o : Nat => sumTo (fun k : Nat => if (s.line o k).good = g then (if x.order = (o : Int) ∧ x.line = (k : Int) then x.n else 0) else 0) (s.order o).lines.length) s.orders.length = sumTo (fun o : Nat => if o = a then (if (s.line a c).good = g then x.n else 0) else 0) s.orders.length := by
    refine sumTo_congr fun o _ => ?_
    by_cases e : o = a
    · subst e
      rw [if_pos rfl]
      have := sumTo_at (n := (s.order o).lines.length) (i := c) (by omega) (if (s.line o c).good = g then x.n else 0)
      rw [← this]
      refine sumTo_congr fun k _ => ?_
      by_cases e2 : k = c
      · subst e2
        rw [if_pos rfl, if_pos (show x.order = (o : Int) ∧ x.line = (k : Int) from ⟨ha, hc⟩)]
      · rw [if_neg e2, if_neg (show ¬ (x.order = (o : Int) ∧ x.line = (k : Int)) by omega)]
        split <;> rfl
    · rw [if_neg e]
      refine sumTo_zero fun k _ => ?_
      rw [if_neg (show ¬ (x.order = (o : Int) ∧ x.line = (k : Int)) by omega)]
      split <;> rfl
  have e5 : sumTo (fun b : Nat => heldN s b g x) p.bins.length = sumTo (fun b : Nat => if b = d then (if (s.line a c).good = g then x.n else 0) else 0) p.bins.length := by
    refine sumTo_congr fun b _ => ?_
    unfold heldN
    rw [ha, hc, hd]
    simp only [Int.toNat_natCast]
    by_cases e : b = d
    · subst e
      simp
    · rw [if_neg e, if_neg (by omega)]
  rw [e4, e5, sumTo_at (by omega), sumTo_at (by omega)]
theorem sumTo_le {f g : Nat → Int} {n : Nat} (h : ∀ k, k < n → f k ≤ g k) : sumTo f n ≤ sumTo g n := by
  induction n with
  | zero => exact Int.le_refl _
  | succ n ih =>
    have h1 := ih fun k hk => h k (by omega)
    have h2 := h n (by omega)
    show sumTo f n + f n ≤ sumTo g n + g n
    omega
theorem held_there (hc : checkState p s = 0) {g : Nat} (hg : g < p.sizes.length) : (tot s g s.orders.length 0).held ≤ (tot s g s.orders.length 0).on := by
  have h := right_of_check hc
  show ovTo (heldG s g) s s.orders.length 0 ≤ sumOf s.on (g : Int).toNat
  rw [held_lines h.sane, Int.toNat_natCast]
  unfold sumOf
  rw [h.sane.onLen]
  refine sumTo_le fun b hb => ?_
  have h1 := h.bnd hb hg
  have h2 := goingOf_nonneg h.sane b g
  unfold bound at h1
  omega
end
end Wh
namespace Wh
open Go Go.RowKit Go.Shelf Go.Proofs
attribute [local go_sem] run_indexAt_letter evL_tmp evL_const evL_func

/-- An act's value: five numbers, some lines. -/
def DeedV (w : World) (base : Nat) (v : Value) (x : Deed) : Prop := ∃ vl, v = .agg #[.int .i64 x.kind, .int .i64 x.a, .int .i64 x.b, .int .i64 x.c, .int .i64 x.n, vl] ∧ Sl cLine w base vl x.lines
theorem DeedV.up {w w' : World} {base base' : Nat} {v : Value} {x : Deed} (h : DeedV w base v x) (hb : Below base w w') (hB : base ≤ base') : DeedV w' base' v x := by
  obtain ⟨vl, e, hl⟩ := h
  exact ⟨vl, e, hl.up hb hB⟩
theorem openDeed {w : World} {v : Value} {x : Deed} (h : DeedV w w.heap.size v x) : ∃ Al cl, v = .agg #[.int .i64 x.kind, .int .i64 x.a, .int .i64 x.b, .int .i64 x.c, .int .i64 x.n, .slice Al x.lines.length cl] ∧
    Hid (∀ W, Below w.heap.size w W → DeedV W W.heap.size (.agg #[.int .i64 x.kind, .int .i64 x.a, .int .i64 x.b, .int .i64 x.c, .int .i64 x.n, .slice Al x.lines.length cl]) x) ∧
    Hid (∀ W, Below w.heap.size w W → Sl cLine W W.heap.size (.slice Al x.lines.length cl) x.lines) ∧ x.lines.length ≤ 140737488355232 := by
  obtain ⟨vl, rfl, hl⟩ := h
  obtain ⟨Al, cl, rfl, hll, hAl⟩ := hl
  exact ⟨Al, cl, rfl, Lib.hid (fun W hW => ⟨_, rfl, Sl.up ⟨Al, cl, rfl, hll, hAl⟩ hW hW.size⟩), Lib.hid (fun W hW => Sl.up ⟨Al, cl, rfl, hll, hAl⟩ hW hW.size), hll⟩

theorem boxesDeed (w : World) (p : Plan) (s : State) (Ab : Option Addr) (cb : Nat) (As : Option Addr) (cs : Nat) (A0 : Option Addr) (c0 : Nat) (A1 : Option Addr) (c1 : Nat) (A2 : Option Addr) (c2 : Nat) (A3 : Option Addr) (c3 : Nat) (A4 : Option Addr) (c4 : Nat) (A5 : Option Addr) (c5 : Nat) (A6 : Option Addr) (c6 : Nat) (kd xa xb xc xn : Int) (Al : Option Addr) (ln cl : Nat) :
    ∃ W0 : World, ((w.alloc (.cells #[.slice Ab p.bins.length cb, .slice As p.sizes.length cs] 25)).alloc (.cells #[.slice A0 s.on.length c0, .slice A1 s.orders.length c1, .slice A2 s.holds.length c2, .slice A3 s.moves.length c3, .slice A4 s.inn.length c4, .slice A5 s.out.length c5, .slice A6 s.fixed.length c6] 31)).alloc (.cells #[.int .i64 kd, .int .i64 xa, .int .i64 xb, .int .i64 xc, .int .i64 xn, .slice Al ln cl] 34) = W0 ∧ Below w.heap.size w W0 ∧ Hid (W0.heap.size = w.heap.size + 1 + 1 + 1) ∧
      Hid (∀ W, Below W0.heap.size W0 W → (W.cell? ⟨w.heap.size, 0, none⟩ = some (.slice Ab p.bins.length cb) ∧ W.cell? ⟨w.heap.size, 1, none⟩ = some (.slice As p.sizes.length cs)) ∧ W.cell? ⟨w.heap.size + 1, 0, none⟩ = some (.slice A0 s.on.length c0) ∧ W.cell? ⟨w.heap.size + 1, 1, none⟩ = some (.slice A1 s.orders.length c1) ∧ W.cell? ⟨w.heap.size + 1, 2, none⟩ = some (.slice A2 s.holds.length c2) ∧ W.cell? ⟨w.heap.size + 1, 3, none⟩ = some (.slice A3 s.moves.length c3) ∧ W.cell? ⟨w.heap.size + 1, 4, none⟩ = some (.slice A4 s.inn.length c4) ∧ W.cell? ⟨w.heap.size + 1, 5, none⟩ = some (.slice A5 s.out.length c5) ∧ W.cell? ⟨w.heap.size + 1, 6, none⟩ = some (.slice A6 s.fixed.length c6) ∧ w.heap.size + 1 < W.heap.size ∧ w.heap.size < W.heap.size) ∧
      Hid (∀ W, Below W0.heap.size W0 W → W.cell? ⟨w.heap.size + 1 + 1, 0, none⟩ = some (.int .i64 kd) ∧ W.cell? ⟨w.heap.size + 1 + 1, 1, none⟩ = some (.int .i64 xa) ∧ W.cell? ⟨w.heap.size + 1 + 1, 2, none⟩ = some (.int .i64 xb) ∧ W.cell? ⟨w.heap.size + 1 + 1, 3, none⟩ = some (.int .i64 xc) ∧ W.cell? ⟨w.heap.size + 1 + 1, 4, none⟩ = some (.int .i64 xn) ∧ W.cell? ⟨w.heap.size + 1 + 1, 5, none⟩ = some (.slice Al ln cl) ∧ w.heap.size + 1 + 1 < W.heap.size) := by
  obtain ⟨W1, e1, b1, s1, s2, s3, hK⟩ := boxesTwo w p s Ab cb As cs A0 c0 A1 c1 A2 c2 A3 c3 A4 c4 A5 c5 A6 c6
  rw [e1]
  have e3 : W1.heap.size = w.heap.size + 1 + 1 := s3
  have ha : Below W1.heap.size W1 (W1.alloc (.cells #[.int .i64 kd, .int .i64 xa, .int .i64 xb, .int .i64 xc, .int .i64 xn, .slice Al ln cl] 34)) := (Below.refl _ _).alloc (Nat.le_refl _) _
  have h1 : Blk (W1.alloc (.cells #[.int .i64 kd, .int .i64 xa, .int .i64 xb, .int .i64 xc, .int .i64 xn, .slice Al ln cl] 34)) W1.heap.size 34 [.int .i64 kd, .int .i64 xa, .int .i64 xb, .int .i64 xc, .int .i64 xn, .slice Al ln cl] := Blk.new _ _ _
  rw [e3] at h1
  refine ⟨_, rfl, b1.trans (ha.mono b1.size), Lib.hid (by simp [e3]), Lib.hid fun W hW => RowKit.Hid.out hK W (ha.trans (hW.mono ha.size)), Lib.hid fun W hW => ?_⟩
  have k := h1.below hW (by simp; omega)
  exact ⟨k.cell rfl, k.cell rfl, k.cell rfl, k.cell rfl, k.cell rfl, k.cell rfl, k.lt⟩
theorem boxesDo (w : World) (p : Plan) (s : State) (Ab : Option Addr) (cb : Nat) (As : Option Addr) (cs : Nat) (A0 : Option Addr) (c0 : Nat) (A1 : Option Addr) (c1 : Nat) (A2 : Option Addr) (c2 : Nat) (A3 : Option Addr) (c3 : Nat) (A4 : Option Addr) (c4 : Nat) (A5 : Option Addr) (c5 : Nat) (A6 : Option Addr) (c6 : Nat) (kd xa xb xc xn : Int) (Al : Option Addr) (ln cl : Nat) :
    ∃ W0 : World, (((w.alloc (.cells #[.slice Ab p.bins.length cb, .slice As p.sizes.length cs] 25)).alloc (.cells #[.slice A0 s.on.length c0, .slice A1 s.orders.length c1, .slice A2 s.holds.length c2, .slice A3 s.moves.length c3, .slice A4 s.inn.length c4, .slice A5 s.out.length c5, .slice A6 s.fixed.length c6] 31)).alloc (.cells #[.int .i64 kd, .int .i64 xa, .int .i64 xb, .int .i64 xc, .int .i64 xn, .slice Al ln cl] 34)).alloc (.cells #[.slice none 0 0, .slice none 0 0, .slice none 0 0, .slice none 0 0, .slice none 0 0, .slice none 0 0, .slice none 0 0] 31) = W0 ∧ Below w.heap.size w W0 ∧ Hid (W0.heap.size = w.heap.size + 1 + 1 + 1 + 1) ∧
      Hid (∀ W, Below W0.heap.size W0 W → (W.cell? ⟨w.heap.size, 0, none⟩ = some (.slice Ab p.bins.length cb) ∧ W.cell? ⟨w.heap.size, 1, none⟩ = some (.slice As p.sizes.length cs)) ∧ W.cell? ⟨w.heap.size + 1, 0, none⟩ = some (.slice A0 s.on.length c0) ∧ W.cell? ⟨w.heap.size + 1, 1, none⟩ = some (.slice A1 s.orders.length c1) ∧ W.cell? ⟨w.heap.size + 1, 2, none⟩ = some (.slice A2 s.holds.length c2) ∧ W.cell? ⟨w.heap.size + 1, 3, none⟩ = some (.slice A3 s.moves.length c3) ∧ W.cell? ⟨w.heap.size + 1, 4, none⟩ = some (.slice A4 s.inn.length c4) ∧ W.cell? ⟨w.heap.size + 1, 5, none⟩ = some (.slice A5 s.out.length c5) ∧ W.cell? ⟨w.heap.size + 1, 6, none⟩ = some (.slice A6 s.fixed.length c6) ∧ w.heap.size + 1 < W.heap.size ∧ w.heap.size < W.heap.size) ∧
      Hid (∀ W, Below W0.heap.size W0 W → W.cell? ⟨w.heap.size + 1 + 1, 0, none⟩ = some (.int .i64 kd) ∧ W.cell? ⟨w.heap.size + 1 + 1, 1, none⟩ = some (.int .i64 xa) ∧ W.cell? ⟨w.heap.size + 1 + 1, 2, none⟩ = some (.int .i64 xb) ∧ W.cell? ⟨w.heap.size + 1 + 1, 3, none⟩ = some (.int .i64 xc) ∧ W.cell? ⟨w.heap.size + 1 + 1, 4, none⟩ = some (.int .i64 xn) ∧ W.cell? ⟨w.heap.size + 1 + 1, 5, none⟩ = some (.slice Al ln cl) ∧ w.heap.size + 1 + 1 < W.heap.size) ∧ Hid (∀ W, Below W0.heap.size W0 W → BoxAt W (w.heap.size + 1 + 1 + 1) nilSV) := by
  obtain ⟨W1, e1, b1, s3, hK, hD⟩ := boxesDeed w p s Ab cb As cs A0 c0 A1 c1 A2 c2 A3 c3 A4 c4 A5 c5 A6 c6 kd xa xb xc xn Al ln cl
  rw [e1]
  have e3 : W1.heap.size = w.heap.size + 1 + 1 + 1 := s3
  have ha : Below W1.heap.size W1 (W1.alloc (.cells #[.slice none 0 0, .slice none 0 0, .slice none 0 0, .slice none 0 0, .slice none 0 0, .slice none 0 0, .slice none 0 0] 31)) := (Below.refl _ _).alloc (Nat.le_refl _) _
  have h1 : Blk (W1.alloc (.cells #[.slice none 0 0, .slice none 0 0, .slice none 0 0, .slice none 0 0, .slice none 0 0, .slice none 0 0, .slice none 0 0] 31)) W1.heap.size 31 [.slice none 0 0, .slice none 0 0, .slice none 0 0, .slice none 0 0, .slice none 0 0, .slice none 0 0, .slice none 0 0] := Blk.new _ _ _
  rw [e3] at h1
  exact ⟨_, rfl, b1.trans (ha.mono b1.size), Lib.hid (by simp [e3]), Lib.hid fun W hW => RowKit.Hid.out hK W (ha.trans (hW.mono ha.size)), Lib.hid fun W hW => RowKit.Hid.out hD W (ha.trans (hW.mono ha.size)), Lib.hid fun W hW => h1.below hW (by simp; omega)⟩


set_option maxHeartbeats 8000000 in
set_option maxRecDepth 100000 in
theorem lgDo (w : World) (v vs vd : Value) (p : Plan) (s : State) (x : Deed) (hp : PlanV w w.heap.size v p) (hv : StateV w w.heap.size vs s) (hd : DeedV w w.heap.size vd x) :
    Calls Tryz.prog 17 #[v, vs, vd] w (ActPost (act p s x) w) := by
  obtain ⟨Ab, cb, As, cs, rfl, hP', hBn, hSz, hlb, hls⟩ := openPl hp
  obtain ⟨A0, c0, A1, c1, A2, c2, A3, c3, A4, c4, A5, c5, A6, c6, rfl, hV, hN, hO, hH, hM, hI, hU, hX, hl0, hl1, hl2, hl3, hl4, hl5, hl6⟩ := openOne hv
  obtain ⟨Al, cl, rfl, hDV, hLn, hll⟩ := openDeed hd
  obtain ⟨kd, xa, xb, xc, xn, l⟩ := x
  simp only at hDV hLn hll ⊢
  clear hd hp hv

  by_cases k1 : kd = 1
  · rw [show act p s ⟨kd, xa, xb, xc, xn, l⟩ = receive p s xa xb xn by rw [k1]; rfl]
    have q1 : (kd == 1) = true := by simpa using k1
    clear k1
    go_enter Tryz.func17, Tryz.ntmps17
    go_wp2_with fail
    obtain ⟨W0, hW0, hb0, hsE, hK, hD, hR⟩ := boxesDo w p s Ab cb As cs A0 c0 A1 c1 A2 c2 A3 c3 A4 c4 A5 c5 A6 c6 kd xa xb xc xn Al l.length cl
    rw [hW0]
    clear hW0
    refine (recvReceive _ _ _ p s xa xb xn (hP'.out _ hb0) (hV.out _ hb0)).mono ?_
    rintro e W1 ⟨V1, rfl, ho1, hb1⟩
    have hbx9 := hR.out _ hb1
    have hone9 := OwnSt.one ho1
    go_wp2_with (refine wpList_store_state rfl (.tmp 6) (.tmp 21) rfl rfl (w.heap.size + 1 + 1 + 1) nilSV V1 hbx9 rfl rfl hone9 (fun w9 hbox9 hg9 => ?_))
    have hO9 := OwnSt.keptBy ho1 hg9 hbx9 (by decide) (by decide) (by decide) (by decide) (by decide) (by decide)
    have hB1 := hb0.trans (hb1.mono hb0.size)
    have hle := hb0.size
    obtain ⟨p0, p1, p2, p3, p4, p5, p6⟩ := BoxAt.cells hbox9
    have hfin9 : Below w.heap.size w w9 := Below.grown hB1 hg9 (Below.size hB1) (fun k hk => by injection hk with hk; omega)
    go_wp2_with fail
    exact bodyPost_ret (v := .tuple #[SV.val V1, .int .i64 (receive p s xa xb xn).2]) (by simp [results, Tryz.results17, go_sem, SV.val, p0, p1, p2, p3, p4, p5, p6]) rfl (show ActPost (receive p s xa xb xn) w _ w9 from ⟨V1, rfl, hO9.from_ hle, hfin9⟩)
  have q1 : (kd == 1) = false := by simpa using k1
  by_cases k2 : kd = 2
  · rw [show act p s ⟨kd, xa, xb, xc, xn, l⟩ = enter p s l by rw [k2]; rfl]
    have q2 : (kd == 2) = true := by simpa using k2
    clear k1 k2
    go_enter Tryz.func17, Tryz.ntmps17
    go_wp2_with fail
    obtain ⟨W0, hW0, hb0, hsE, hK, hD, hR⟩ := boxesDo w p s Ab cb As cs A0 c0 A1 c1 A2 c2 A3 c3 A4 c4 A5 c5 A6 c6 kd xa xb xc xn Al l.length cl
    rw [hW0]
    clear hW0
    refine (recvEnter _ _ _ _ p s l (hP'.out _ hb0) (hV.out _ hb0) (hLn.out _ hb0)).mono ?_
    rintro e W1 ⟨V1, rfl, ho1, hb1⟩
    have hbx9 := hR.out _ hb1
    have hone9 := OwnSt.one ho1
    go_wp2_with (refine wpList_store_state rfl (.tmp 6) (.tmp 30) rfl rfl (w.heap.size + 1 + 1 + 1) nilSV V1 hbx9 rfl rfl hone9 (fun w9 hbox9 hg9 => ?_))
    have hO9 := OwnSt.keptBy ho1 hg9 hbx9 (by decide) (by decide) (by decide) (by decide) (by decide) (by decide)
    have hB1 := hb0.trans (hb1.mono hb0.size)
    have hle := hb0.size
    obtain ⟨p0, p1, p2, p3, p4, p5, p6⟩ := BoxAt.cells hbox9
    have hfin9 : Below w.heap.size w w9 := Below.grown hB1 hg9 (Below.size hB1) (fun k hk => by injection hk with hk; omega)
    go_wp2_with fail
    exact bodyPost_ret (v := .tuple #[SV.val V1, .int .i64 (enter p s l).2]) (by simp [results, Tryz.results17, go_sem, SV.val, p0, p1, p2, p3, p4, p5, p6]) rfl (show ActPost (enter p s l) w _ w9 from ⟨V1, rfl, hO9.from_ hle, hfin9⟩)
  have q2 : (kd == 2) = false := by simpa using k2
  by_cases k3 : kd = 3
  · rw [show act p s ⟨kd, xa, xb, xc, xn, l⟩ = release p s by rw [k3]; rfl]
    have q3 : (kd == 3) = true := by simpa using k3
    clear k1 k2 k3
    go_enter Tryz.func17, Tryz.ntmps17
    go_wp2_with fail
    obtain ⟨W0, hW0, hb0, hsE, hK, hD, hR⟩ := boxesDo w p s Ab cb As cs A0 c0 A1 c1 A2 c2 A3 c3 A4 c4 A5 c5 A6 c6 kd xa xb xc xn Al l.length cl
    rw [hW0]
    clear hW0
    refine (wvRelease _ _ _ p s (hP'.out _ hb0) (hV.out _ hb0)).mono ?_
    rintro e W1 ⟨V1, rfl, ho1, hb1⟩
    have hbx9 := hR.out _ hb1
    have hone9 := OwnSt.one ho1
    go_wp2_with (refine wpList_store_state rfl (.tmp 6) (.tmp 37) rfl rfl (w.heap.size + 1 + 1 + 1) nilSV V1 hbx9 rfl rfl hone9 (fun w9 hbox9 hg9 => ?_))
    have hO9 := OwnSt.keptBy ho1 hg9 hbx9 (by decide) (by decide) (by decide) (by decide) (by decide) (by decide)
    have hB1 := hb0.trans (hb1.mono hb0.size)
    have hle := hb0.size
    obtain ⟨p0, p1, p2, p3, p4, p5, p6⟩ := BoxAt.cells hbox9
    have hfin9 : Below w.heap.size w w9 := Below.grown hB1 hg9 (Below.size hB1) (fun k hk => by injection hk with hk; omega)
    go_wp2_with fail
    exact bodyPost_ret (v := .tuple #[SV.val V1, .int .i64 (release p s).2]) (by simp [results, Tryz.results17, go_sem, SV.val, p0, p1, p2, p3, p4, p5, p6]) rfl (show ActPost (release p s) w _ w9 from ⟨V1, rfl, hO9.from_ hle, hfin9⟩)
  have q3 : (kd == 3) = false := by simpa using k3
  by_cases k4 : kd = 4
  · rw [show act p s ⟨kd, xa, xb, xc, xn, l⟩ = cancel p s xa by rw [k4]; rfl]
    have q4 : (kd == 4) = true := by simpa using k4
    clear k1 k2 k3 k4
    go_enter Tryz.func17, Tryz.ntmps17
    go_wp2_with fail
    obtain ⟨W0, hW0, hb0, hsE, hK, hD, hR⟩ := boxesDo w p s Ab cb As cs A0 c0 A1 c1 A2 c2 A3 c3 A4 c4 A5 c5 A6 c6 kd xa xb xc xn Al l.length cl
    rw [hW0]
    clear hW0
    refine (wvCancel _ _ _ p s xa (hP'.out _ hb0) (hV.out _ hb0)).mono ?_
    rintro e W1 ⟨V1, rfl, ho1, hb1⟩
    have hbx9 := hR.out _ hb1
    have hone9 := OwnSt.one ho1
    go_wp2_with (refine wpList_store_state rfl (.tmp 6) (.tmp 46) rfl rfl (w.heap.size + 1 + 1 + 1) nilSV V1 hbx9 rfl rfl hone9 (fun w9 hbox9 hg9 => ?_))
    have hO9 := OwnSt.keptBy ho1 hg9 hbx9 (by decide) (by decide) (by decide) (by decide) (by decide) (by decide)
    have hB1 := hb0.trans (hb1.mono hb0.size)
    have hle := hb0.size
    obtain ⟨p0, p1, p2, p3, p4, p5, p6⟩ := BoxAt.cells hbox9
    have hfin9 : Below w.heap.size w w9 := Below.grown hB1 hg9 (Below.size hB1) (fun k hk => by injection hk with hk; omega)
    go_wp2_with fail
    exact bodyPost_ret (v := .tuple #[SV.val V1, .int .i64 (cancel p s xa).2]) (by simp [results, Tryz.results17, go_sem, SV.val, p0, p1, p2, p3, p4, p5, p6]) rfl (show ActPost (cancel p s xa) w _ w9 from ⟨V1, rfl, hO9.from_ hle, hfin9⟩)
  have q4 : (kd == 4) = false := by simpa using k4
  by_cases k5 : kd = 5
  · rw [show act p s ⟨kd, xa, xb, xc, xn, l⟩ = pick p s xa xb xc xn by rw [k5]; rfl]
    have q5 : (kd == 5) = true := by simpa using k5
    clear k1 k2 k3 k4 k5
    go_enter Tryz.func17, Tryz.ntmps17
    go_wp2_with fail
    obtain ⟨W0, hW0, hb0, hsE, hK, hD, hR⟩ := boxesDo w p s Ab cb As cs A0 c0 A1 c1 A2 c2 A3 c3 A4 c4 A5 c5 A6 c6 kd xa xb xc xn Al l.length cl
    rw [hW0]
    clear hW0
    refine (pkPick _ _ _ p s xa xb xc xn (hP'.out _ hb0) (hV.out _ hb0)).mono ?_
    rintro e W1 ⟨V1, rfl, ho1, hb1⟩
    have hbx9 := hR.out _ hb1
    have hone9 := OwnSt.one ho1
    go_wp2_with (refine wpList_store_state rfl (.tmp 6) (.tmp 61) rfl rfl (w.heap.size + 1 + 1 + 1) nilSV V1 hbx9 rfl rfl hone9 (fun w9 hbox9 hg9 => ?_))
    have hO9 := OwnSt.keptBy ho1 hg9 hbx9 (by decide) (by decide) (by decide) (by decide) (by decide) (by decide)
    have hB1 := hb0.trans (hb1.mono hb0.size)
    have hle := hb0.size
    obtain ⟨p0, p1, p2, p3, p4, p5, p6⟩ := BoxAt.cells hbox9
    have hfin9 : Below w.heap.size w w9 := Below.grown hB1 hg9 (Below.size hB1) (fun k hk => by injection hk with hk; omega)
    go_wp2_with fail
    exact bodyPost_ret (v := .tuple #[SV.val V1, .int .i64 (pick p s xa xb xc xn).2]) (by simp [results, Tryz.results17, go_sem, SV.val, p0, p1, p2, p3, p4, p5, p6]) rfl (show ActPost (pick p s xa xb xc xn) w _ w9 from ⟨V1, rfl, hO9.from_ hle, hfin9⟩)
  have q5 : (kd == 5) = false := by simpa using k5
  by_cases k6 : kd = 6
  · rw [show act p s ⟨kd, xa, xb, xc, xn, l⟩ = fill p s by rw [k6]; rfl]
    have q6 : (kd == 6) = true := by simpa using k6
    clear k1 k2 k3 k4 k5 k6
    go_enter Tryz.func17, Tryz.ntmps17
    go_wp2_with fail
    obtain ⟨W0, hW0, hb0, hsE, hK, hD, hR⟩ := boxesDo w p s Ab cb As cs A0 c0 A1 c1 A2 c2 A3 c3 A4 c4 A5 c5 A6 c6 kd xa xb xc xn Al l.length cl
    rw [hW0]
    clear hW0
    refine (flFill _ _ _ p s (hP'.out _ hb0) (hV.out _ hb0)).mono ?_
    rintro e W1 ⟨V1, rfl, ho1, hb1⟩
    have hbx9 := hR.out _ hb1
    have hone9 := OwnSt.one ho1
    go_wp2_with (refine wpList_store_state rfl (.tmp 6) (.tmp 68) rfl rfl (w.heap.size + 1 + 1 + 1) nilSV V1 hbx9 rfl rfl hone9 (fun w9 hbox9 hg9 => ?_))
    have hO9 := OwnSt.keptBy ho1 hg9 hbx9 (by decide) (by decide) (by decide) (by decide) (by decide) (by decide)
    have hB1 := hb0.trans (hb1.mono hb0.size)
    have hle := hb0.size
    obtain ⟨p0, p1, p2, p3, p4, p5, p6⟩ := BoxAt.cells hbox9
    have hfin9 : Below w.heap.size w w9 := Below.grown hB1 hg9 (Below.size hB1) (fun k hk => by injection hk with hk; omega)
    go_wp2_with fail
    exact bodyPost_ret (v := .tuple #[SV.val V1, .int .i64 (fill p s).2]) (by simp [results, Tryz.results17, go_sem, SV.val, p0, p1, p2, p3, p4, p5, p6]) rfl (show ActPost (fill p s) w _ w9 from ⟨V1, rfl, hO9.from_ hle, hfin9⟩)
  have q6 : (kd == 6) = false := by simpa using k6
  by_cases k7 : kd = 7
  · rw [show act p s ⟨kd, xa, xb, xc, xn, l⟩ = moved p s xa xn by rw [k7]; rfl]
    have q7 : (kd == 7) = true := by simpa using k7
    clear k1 k2 k3 k4 k5 k6 k7
    go_enter Tryz.func17, Tryz.ntmps17
    go_wp2_with fail
    obtain ⟨W0, hW0, hb0, hsE, hK, hD, hR⟩ := boxesDo w p s Ab cb As cs A0 c0 A1 c1 A2 c2 A3 c3 A4 c4 A5 c5 A6 c6 kd xa xb xc xn Al l.length cl
    rw [hW0]
    clear hW0
    refine (flMoved _ _ _ p s xa xn (hP'.out _ hb0) (hV.out _ hb0)).mono ?_
    rintro e W1 ⟨V1, rfl, ho1, hb1⟩
    have hbx9 := hR.out _ hb1
    have hone9 := OwnSt.one ho1
    go_wp2_with (refine wpList_store_state rfl (.tmp 6) (.tmp 79) rfl rfl (w.heap.size + 1 + 1 + 1) nilSV V1 hbx9 rfl rfl hone9 (fun w9 hbox9 hg9 => ?_))
    have hO9 := OwnSt.keptBy ho1 hg9 hbx9 (by decide) (by decide) (by decide) (by decide) (by decide) (by decide)
    have hB1 := hb0.trans (hb1.mono hb0.size)
    have hle := hb0.size
    obtain ⟨p0, p1, p2, p3, p4, p5, p6⟩ := BoxAt.cells hbox9
    have hfin9 : Below w.heap.size w w9 := Below.grown hB1 hg9 (Below.size hB1) (fun k hk => by injection hk with hk; omega)
    go_wp2_with fail
    exact bodyPost_ret (v := .tuple #[SV.val V1, .int .i64 (moved p s xa xn).2]) (by simp [results, Tryz.results17, go_sem, SV.val, p0, p1, p2, p3, p4, p5, p6]) rfl (show ActPost (moved p s xa xn) w _ w9 from ⟨V1, rfl, hO9.from_ hle, hfin9⟩)
  have q7 : (kd == 7) = false := by simpa using k7
  by_cases k8 : kd = 8
  · rw [show act p s ⟨kd, xa, xb, xc, xn, l⟩ = count p s xa xb xn by rw [k8]; rfl]
    have q8 : (kd == 8) = true := by simpa using k8
    clear k1 k2 k3 k4 k5 k6 k7 k8
    go_enter Tryz.func17, Tryz.ntmps17
    go_wp2_with fail
    obtain ⟨W0, hW0, hb0, hsE, hK, hD, hR⟩ := boxesDo w p s Ab cb As cs A0 c0 A1 c1 A2 c2 A3 c3 A4 c4 A5 c5 A6 c6 kd xa xb xc xn Al l.length cl
    rw [hW0]
    clear hW0
    refine (ctCount _ _ _ p s xa xb xn (hP'.out _ hb0) (hV.out _ hb0)).mono ?_
    rintro e W1 ⟨V1, rfl, ho1, hb1⟩
    have hbx9 := hR.out _ hb1
    have hone9 := OwnSt.one ho1
    go_wp2_with (refine wpList_store_state rfl (.tmp 6) (.tmp 92) rfl rfl (w.heap.size + 1 + 1 + 1) nilSV V1 hbx9 rfl rfl hone9 (fun w9 hbox9 hg9 => ?_))
    have hO9 := OwnSt.keptBy ho1 hg9 hbx9 (by decide) (by decide) (by decide) (by decide) (by decide) (by decide)
    have hB1 := hb0.trans (hb1.mono hb0.size)
    have hle := hb0.size
    obtain ⟨p0, p1, p2, p3, p4, p5, p6⟩ := BoxAt.cells hbox9
    have hfin9 : Below w.heap.size w w9 := Below.grown hB1 hg9 (Below.size hB1) (fun k hk => by injection hk with hk; omega)
    go_wp2_with fail
    exact bodyPost_ret (v := .tuple #[SV.val V1, .int .i64 (count p s xa xb xn).2]) (by simp [results, Tryz.results17, go_sem, SV.val, p0, p1, p2, p3, p4, p5, p6]) rfl (show ActPost (count p s xa xb xn) w _ w9 from ⟨V1, rfl, hO9.from_ hle, hfin9⟩)
  have q8 : (kd == 8) = false := by simpa using k8
  · rw [show act p s ⟨kd, xa, xb, xc, xn, l⟩ = (dState, 8) by unfold act; simp only [k1, k2, k3, k4, k5, k6, k7, k8, if_false]]
    clear k1 k2 k3 k4 k5 k6 k7 k8
    obtain ⟨W0, hW0, hb0, hsE, hK, hD, hR⟩ := boxesDo w p s Ab cb As cs A0 c0 A1 c1 A2 c2 A3 c3 A4 c4 A5 c5 A6 c6 kd xa xb xc xn Al l.length cl
    subst hW0
    have hbx9 := hR.out _ (Below.refl _ _)
    go_enter Tryz.func17, Tryz.ntmps17
    go_wp2_with (refine wpList_store_state rfl (.tmp 6) (.tmp 94) rfl rfl (w.heap.size + 1 + 1 + 1) nilSV nilSV hbx9 rfl rfl rfl (fun w9 hbox9 hg9 => ?_))
    have hle := hb0.size
    obtain ⟨p0, p1, p2, p3, p4, p5, p6⟩ := BoxAt.cells hbox9
    have hfin9 : Below w.heap.size w w9 := Below.grown hb0 hg9 (Below.size hb0) (fun k hk => by injection hk with hk; omega)
    go_wp2_with fail
    exact bodyPost_ret (v := .tuple #[nilSV.val, .int .i64 8]) (by simp [results, Tryz.results17, go_sem, SV.val, p0, p1, p2, p3, p4, p5, p6]) rfl (actErr rfl hfin9)
end Wh
