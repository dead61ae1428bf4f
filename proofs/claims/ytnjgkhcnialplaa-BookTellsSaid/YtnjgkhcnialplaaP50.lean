/- Texts of the claim, joined: BookA. -/
import Derived.Test.YtnjgkhcnialplaaP20
namespace Wh

def heldG (s : State) (g : Int) (o k : Nat) : Int := if (s.line o k).good = g then kept s.holds o k else 0
def backG (s : State) (g : Int) (o k : Nat) : Int := if (s.line o k).good = g then (s.line o k).back else 0
def gotG (s : State) (g : Int) (o k : Nat) : Int := if (s.line o k).good = g then (s.line o k).got else 0
/-- What is summed over all orders ahead of o, and the lines of o ahead of k. -/
def ovTo (F : Nat → Nat → Int) (s : State) (o k : Nat) : Int := sumTo (fun i => sumTo (F i) (s.order i).lines.length) o + sumTo (F o) k
def tot (s : State) (g : Int) (o k : Nat) : Total := ⟨sumOf s.on g.toNat, ovTo (heldG s g) s o k, ovTo (backG s g) s o k, ovTo (gotG s g) s o k⟩
def totsTo (s : State) (n o k : Nat) : List Total := (List.range n).map fun g : Nat => tot s g o k
def dTotal : Total := ⟨0, 0, 0, 0⟩
def onsTo (s : State) (n q : Nat) : List Total := (List.range n).map fun g : Nat => if g < q then tot s g 0 0 else dTotal
def totalsF (p : Plan) (s : State) : List Total := totsTo s p.sizes.length s.orders.length 0
def openTo (s : State) (k : Nat) : Int := sumTo (fun o => if (orderAt s.orders o).kind = 2 then 0 else 1) k

theorem ovTo_zero (F : Nat → Nat → Int) (s : State) : ovTo F s 0 0 = 0 := rfl
theorem ovTo_line (F : Nat → Nat → Int) (s : State) (o k : Nat) : ovTo F s o (k + 1) = ovTo F s o k + F o k := by
  show _ + (sumTo (F o) k + F o k) = _
  unfold ovTo
  omega
theorem ovTo_order (F : Nat → Nat → Int) (s : State) (o : Nat) : ovTo F s (o + 1) 0 = ovTo F s o (s.order o).lines.length := by
  show (sumTo _ o + sumTo (F o) (s.order o).lines.length) + 0 = _
  unfold ovTo
  omega
theorem ovTo_range {p : Plan} {s : State} (hs : Sane p s) {F : Nat → Nat → Int} (hF : ∀ i k, i < s.orders.length → k < (s.order i).lines.length → 0 ≤ F i k ∧ F i k ≤ 1200) {o k : Nat} (ho : o < s.orders.length) (hk : k ≤ (s.order o).lines.length) :
    0 ≤ ovTo F s o k ∧ ovTo F s o k ≤ 20000 := by
  have h4 := hs.orders4
  have h3 := hs.lines3 ho
  have a := sumTo_bounds (f := F o) (n := k) (m := 1200) (fun j hj => hF o j ho (by omega))
  have b := sumTo_bounds (f := fun i => sumTo (F i) (s.order i).lines.length) (n := o) (m := 3600) (fun i hi => by
    have h3' := hs.lines3 (o := i) (by omega)
    have := sumTo_bounds (f := F i) (n := (s.order i).lines.length) (m := 1200) (fun j hj => hF i j (by omega) hj)
    omega)
  unfold ovTo
  omega
theorem heldG_range {p : Plan} {s : State} (hs : Sane p s) (g : Int) (i k : Nat) (_ : i < s.orders.length) (_ : k < (s.order i).lines.length) : 0 ≤ heldG s g i k ∧ heldG s g i k ≤ 1200 := by
  have := kept_range hs.holds i k
  unfold heldG
  split <;> omega
theorem backG_range {p : Plan} {s : State} (hs : Sane p s) (g : Int) (i k : Nat) (hi : i < s.orders.length) (hk : k < (s.order i).lines.length) : 0 ≤ backG s g i k ∧ backG s g i k ≤ 1200 := by
  have := hs.line hi hk
  unfold backG
  split <;> omega
theorem gotG_range {p : Plan} {s : State} (hs : Sane p s) (g : Int) (i k : Nat) (hi : i < s.orders.length) (hk : k < (s.order i).lines.length) : 0 ≤ gotG s g i k ∧ gotG s g i k ≤ 1200 := by
  have := hs.line hi hk
  unfold gotG
  split <;> omega
theorem tot_range {p : Plan} {s : State} (hs : Sane p s) (g : Int) {o k : Nat} (ho : o < s.orders.length) (hk : k ≤ (s.order o).lines.length) :
    (0 ≤ (tot s g o k).held ∧ (tot s g o k).held ≤ 20000) ∧ (0 ≤ (tot s g o k).back ∧ (tot s g o k).back ≤ 20000) ∧ (0 ≤ (tot s g o k).got ∧ (tot s g o k).got ≤ 20000) :=
  ⟨ovTo_range hs (heldG_range hs g) ho hk, ovTo_range hs (backG_range hs g) ho hk, ovTo_range hs (gotG_range hs g) ho hk⟩
theorem tot_line (s : State) (g : Int) (o k : Nat) : tot s g o (k + 1) = if (s.line o k).good = g then ⟨(tot s g o k).on, (tot s g o k).held + kept s.holds o k, (tot s g o k).back + (s.line o k).back, (tot s g o k).got + (s.line o k).got⟩ else tot s g o k := by
  unfold tot
  rw [ovTo_line, ovTo_line, ovTo_line]
  unfold heldG backG gotG
  split
  · rfl
  · simp
theorem tot_order (s : State) (g : Int) (o : Nat) : tot s g (o + 1) 0 = tot s g o (s.order o).lines.length := by
  unfold tot
  rw [ovTo_order, ovTo_order, ovTo_order]
theorem totsTo_length (s : State) (n o k : Nat) : (totsTo s n o k).length = n := by simp [totsTo]
theorem totsTo_get (s : State) (n o k : Nat) {g : Nat} (hg : g < (totsTo s n o k).length) : (totsTo s n o k)[g] = tot s g o k := by simp [totsTo]
theorem onsTo_length (s : State) (n q : Nat) : (onsTo s n q).length = n := by simp [onsTo]
theorem onsTo_get (s : State) (n q : Nat) {g : Nat} (hg : g < (onsTo s n q).length) : (onsTo s n q)[g] = if g < q then tot s g 0 0 else dTotal := by simp [onsTo]
theorem totsTo_line (s : State) (n o k : Nat) {g : Nat} (h : (s.line o k).good = g) (hg : g < n) : totsTo s n o (k + 1) = (totsTo s n o k).set g ⟨(tot s g o k).on, (tot s g o k).held + kept s.holds o k, (tot s g o k).back + (s.line o k).back, (tot s g o k).got + (s.line o k).got⟩ := by
  apply List.ext_getElem?
  intro i
  rw [List.getElem?_set]
  unfold totsTo
  by_cases hi : g = i
  · subst hi
    simp only [List.length_map, List.length_range, hg, if_true]
    simp only [List.getElem?_map, List.getElem?_range hg, Option.map_some]
    rw [tot_line, if_pos h]
  · rw [if_neg hi]
    simp only [List.getElem?_map]
    by_cases hin : i < n
    · rw [List.getElem?_range hin]
      simp only [Option.map_some]
      rw [tot_line, if_neg (by rw [h]; omega)]
    · rw [List.getElem?_eq_none (by simp; omega)]
      rfl
theorem totsTo_order (s : State) (n o : Nat) : totsTo s n (o + 1) 0 = totsTo s n o (s.order o).lines.length := by
  unfold totsTo
  exact List.map_congr_left fun g _ => tot_order s g o
theorem onsTo_zero (s : State) (n : Nat) : onsTo s n 0 = List.replicate n dTotal := by
  apply List.ext_getElem
  · simp [onsTo]
  · intro i h1 h2
    rw [onsTo_get]
    simp
theorem onsTo_succ (s : State) (n q : Nat) (hq : q < n) : onsTo s n (q + 1) = (onsTo s n q).set q ⟨sumOf s.on q, 0, 0, 0⟩ := by
  apply List.ext_getElem?
  intro i
  rw [List.getElem?_set, onsTo_length]
  unfold onsTo
  by_cases hi : q = i
  · subst hi
    simp only [if_true, hq]
    simp only [List.getElem?_map, List.getElem?_range hq, Option.map_some]
    rw [if_pos (by omega)]
    rfl
  · rw [if_neg hi]
    simp only [List.getElem?_map]
    by_cases hin : i < n
    · rw [List.getElem?_range hin]
      simp only [Option.map_some]
      congr 1
      by_cases h2 : i < q
      · rw [if_pos (by omega), if_pos h2]
      · rw [if_neg (by omega), if_neg h2]
    · rw [List.getElem?_eq_none (by simp; omega)]
      rfl
theorem onsTo_all (s : State) (n : Nat) : onsTo s n n = totsTo s n 0 0 := by
  unfold onsTo totsTo
  refine List.map_congr_left fun g hg => ?_
  rw [if_pos (List.mem_range.1 hg)]
theorem openTo_succ (s : State) (k : Nat) : openTo s (k + 1) = openTo s k + if (orderAt s.orders k).kind = 2 then 0 else 1 := rfl
theorem openTo_range (s : State) (k : Nat) : 0 ≤ openTo s k ∧ openTo s k ≤ k := by
  have := sumTo_bounds (f := fun o => if (orderAt s.orders o).kind = 2 then (0 : Int) else 1) (n := k) (m := 1) (fun j _ => by show 0 ≤ (if (orderAt s.orders j).kind = 2 then (0 : Int) else 1) ∧ (if (orderAt s.orders j).kind = 2 then (0 : Int) else 1) ≤ 1; split <;> omega)
  unfold openTo
  omega
def openF (s : State) : Int := openTo s s.orders.length
def openE (p : Plan) (s : State) : Int × Int := if checkState p s ≠ 0 then (0, checkState p s) else (openF s, 0)
def totalsE (p : Plan) (s : State) : List Total := if checkState p s = 0 then totalsF p s else []
theorem totalsE_bad {p : Plan} {s : State} (h : checkState p s ≠ 0) : totalsE p s = [] := by unfold totalsE; rw [if_neg h]
theorem totalsE_ok {p : Plan} {s : State} (h : checkState p s = 0) : totalsE p s = totalsF p s := by unfold totalsE; rw [if_pos h]
theorem openE_bad {p : Plan} {s : State} (h : checkState p s ≠ 0) : openE p s = (0, checkState p s) := by unfold openE; rw [if_pos h]
theorem openE_ok {p : Plan} {s : State} (h : checkState p s = 0) : openE p s = (openF s, 0) := by unfold openE; rw [if_neg (fun hn => hn h)]
end Wh
