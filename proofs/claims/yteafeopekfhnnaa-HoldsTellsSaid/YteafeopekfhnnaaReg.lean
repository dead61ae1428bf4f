/- A region that draws its order, whose operations read and whose callees make memory of their own: walked once. Over any program. -/
import Derived.Test.YteafeopekfhnnaaMem
namespace Wh
open Go Go.RowKit

/-- How far a world is from another: its draws, the blocks behind. -/
structure GB where
  d : Nat
  os : Array Obj
instance : Inhabited GB := ⟨⟨0, #[]⟩⟩

def wld (w : World) (d : Nat) (os : Array Obj) : World := { w with drawn := d, heap := w.heap ++ os }

theorem below_wld (w : World) (d : Nat) (os : Array Obj) : Below w.heap.size w (wld w d os) :=
  ⟨rfl, rfl, rfl, by simp [wld], fun k hk => by simp [wld, Array.getElem?_append_left hk]⟩
theorem wld_of_below {w w' : World} (h : Below w.heap.size w w') : ∃ p : GB, w' = wld w p.d p.os := by
  obtain ⟨h1, h2, h3, h4, h5⟩ := h
  obtain ⟨heap, tape, drawn, os, output⟩ := w'
  refine ⟨⟨drawn, heap.extract w.heap.size heap.size⟩, ?_⟩
  simp only at h1 h2 h3 h4 h5
  subst h1 h2 h3
  unfold wld
  congr 1
  apply Array.ext_getElem?
  intro k
  by_cases hk : k < w.heap.size
  · rw [h5 k hk, Array.getElem?_append_left hk]
  · rw [Array.getElem?_append_right (by omega)]
    simp only [Array.getElem?_extract]
    by_cases hl : k < heap.size
    · rw [if_pos (by omega)]
      congr 1
      omega
    · rw [if_neg (by omega), Array.getElem?_eq_none (by omega)]
theorem wld_size (w : World) (d : Nat) (os : Array Obj) : (wld w d os).heap.size = w.heap.size + os.size := by simp [wld]
/-- A cell of an old block, in every world of the class. -/
theorem cell_wld {w : World} {a : Addr} {v : Value} (hb : a.block < w.heap.size) (h : w.cell? a = some v) (d : Nat) (os : Array Obj) : (wld w d os).cell? a = some v :=
  ((below_wld w d os).cell hb).trans h
theorem cells_wld {w : World} {b : Nat} (hb : b < w.heap.size) (o : Nat) (d : Nat) (os : Array Obj) : (wld w d os).cell? ⟨b, o, none⟩ = w.cell? ⟨b, o, none⟩ :=
  (below_wld w d os).cell (p := ⟨b, o, none⟩) hb
theorem wp_region_wld {P : Program} {id : Nat} {Q : Exit → Act → World → Prop} {a : Act} {w : World} {l : List Oper} (hm : P.follows .mixedOrders = true) (hB : Region.lexB .any l.toArray = true)
    (h : wpQuiet P l.toArray (fun w' => ∃ p : GB, w' = wld w p.d p.os) (fun a' => ∀ w', (∃ p : GB, w' = wld w p.d p.os) → Q .normal a' w') l a) : (Code.region id l.toArray true).wp P Q a w :=
  wp_region_quiet (C := fun w' => ∃ p : GB, w' = wld w p.d p.os) hm hB ⟨⟨w.drawn + 1, #[]⟩, by simp [wld]⟩ (by simpa using h)
/-- A callee's contract, met in a world of the class. -/
theorem calls_wld {P : Program} {f : FuncId} {args : Array Value} {w : World} {d : Nat} {os : Array Obj} {v : Value}
    (h : Calls P f args (wld w d os) fun e w' => e = .returned v ∧ Below (wld w d os).heap.size (wld w d os) w') : Calls P f args (wld w d os) fun e w'' => e = .returned v ∧ ∃ p : GB, w'' = wld w p.d p.os :=
  h.mono fun _ _ ⟨he, hb⟩ => ⟨he, wld_of_below ((below_wld w d os).trans (hb.mono (below_wld w d os).size))⟩
theorem calls_wld_same {P : Program} {f : FuncId} {args : Array Value} {w : World} {d : Nat} {os : Array Obj} {v : Value}
    (h : Calls P f args (wld w d os) fun e w' => e = .returned v ∧ wld w d os = w') : Calls P f args (wld w d os) fun e w'' => e = .returned v ∧ ∃ p : GB, w'' = wld w p.d p.os :=
  h.mono fun _ _ ⟨he, hb⟩ => ⟨he, ⟨d, os⟩, hb.symm⟩
/-- .. of a callee that draws. -/
theorem calls_wld_drew {P : Program} {f : FuncId} {args : Array Value} {w : World} {d : Nat} {os : Array Obj} {v : Value}
    (h : Calls P f args (wld w d os) fun e w' => e = .returned v ∧ ∃ n, w' = (wld w d os).drewN n) : Calls P f args (wld w d os) fun e w'' => e = .returned v ∧ ∃ p : GB, w'' = wld w p.d p.os :=
  h.mono fun _ _ ⟨he, n, hn⟩ => ⟨he, ⟨d + n, os⟩, hn⟩
theorem below_of_cls {w W : World} (h : ∃ p : GB, W = wld w p.d p.os) : Below w.heap.size w W := by
  obtain ⟨p, rfl⟩ := h
  exact below_wld w p.d p.os
end Wh
