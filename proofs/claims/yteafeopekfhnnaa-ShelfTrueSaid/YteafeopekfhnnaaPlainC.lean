/- Chapter 2, without it: what is put is more there and nowhere else; put back all is as it was. No program. -/
import Derived.Test.YteafeopekfhnnaaPlainA
namespace Wh

theorem shelfError_right {p : Plan} {on : List (List Int)} {b g : Int} (h : checkShelf p on = 0) : shelfError p on b g = if isBin p b && isGood p g then 0 else 3 := by
  unfold shelfError
  rw [if_neg (fun hn => hn h)]

theorem put_true {p : Plan} {on : List (List Int)} {b g n : Int} (h : (put p on b g n).2 = 0) :
    checkShelf p (put p on b g n).1 = 0 ∧ shelfError p on 0 g = 0 ∧ shelfError p (put p on b g n).1 0 g = 0 ∧ (∀ o, shelfError p (put p on b g n).1 o 0 = shelfError p on o 0) ∧
    sumE p (put p on b g n).1 g = sumE p on g + n ∧ (∀ o, o ≠ b → usedE p (put p on b g n).1 o = usedE p on o) ∧ put p (put p on b g n).1 b g (-n) = (on, 0) ∧ (-200 ≤ n ∧ n ≤ 200) := by
  obtain ⟨h1, h2, h3, h4, h5, h6⟩ := put_right h
  rw [h6]
  clear h h6
  have hb := isBin_iff.1 h2
  have hg := isGood_iff.1 h3
  have hl := right_len h1
  have hp := (checkShelf_zero.1 h1).1
  have hok := (checkShelf_zero.1 h1).2
  obtain ⟨hc1, hc2, hc3, hc4⟩ := right_counts hp
  have eb : ((b.toNat : Nat) : Int) = b := Int.toNat_of_nonneg hb.1
  have eg : ((g.toNat : Nat) : Int) = g := Int.toNat_of_nonneg hg.1
  have hbn : b.toNat < p.bins.length := by omega
  have hbo : b.toNat < on.length := by omega
  have hgn : g.toNat < p.sizes.length := by omega
  have hrow := right_row h1 hbo
  have hcell := right_cell h1 hbo hgn
  have hx : checkShelf p (setCell on b.toNat g.toNat (cell on b.toNat g.toNat + n)) = 0 :=
    checkShelf_zero.2 ⟨hp, setCell_ok hok (by omega) hbn hgn⟩
  have hcs : ∀ b' g', cell (setCell on b.toNat g.toNat (cell on b.toNat g.toNat + n)) b' g' = if b' = b.toNat ∧ g' = g.toNat then cell on b.toNat g.toNat + n else cell on b' g' := fun b' g' =>
    cell_set hbo (by rw [hrow]; exact hgn)
  have e0 : ∀ {l}, checkShelf p l = 0 → shelfError p l 0 g = 0 := fun hq => shelfError_zero.2 ⟨hq, isBin_iff.2 ⟨by omega, by omega⟩, h3⟩
  refine ⟨hx, e0 h1, e0 hx, fun o => ?_, ?_, fun o ho => ?_, ?_, by omega⟩
  · rw [shelfError_right hx, shelfError_right h1]
  · unfold sumE
    rw [if_pos (e0 hx), if_pos (e0 h1)]
    unfold sumOf
    rw [length_setCell]
    refine sumTo_one (i := b.toNat) hbo (fun k _ hk => ?_) ?_
    · rw [hcs, if_neg (by rintro ⟨e, _⟩; exact hk e)]
    · rw [hcs, if_pos ⟨rfl, rfl⟩]
  · unfold usedE
    have hse : shelfError p (setCell on b.toNat g.toNat (cell on b.toNat g.toNat + n)) o 0 = shelfError p on o 0 := by
      rw [shelfError_right hx, shelfError_right h1]
    rw [hse]
    by_cases hs : shelfError p on o 0 = 0
    · rw [if_pos hs, if_pos hs]
      have ho' := isBin_iff.1 (shelfError_zero.1 hs).2.1
      unfold usedOf
      refine sumTo_congr fun k _ => ?_
      rw [hcs, if_neg (by rintro ⟨e, _⟩; omega)]
    · rw [if_neg hs, if_neg hs]
  · have hse : shelfError p (setCell on b.toNat g.toNat (cell on b.toNat g.toNat + n)) b g = 0 := shelfError_zero.2 ⟨hx, h2, h3⟩
    have hcx : cell (setCell on b.toNat g.toNat (cell on b.toNat g.toNat + n)) b.toNat g.toNat = cell on b.toNat g.toNat + n := by rw [hcs, if_pos ⟨rfl, rfl⟩]
    unfold put
    rw [if_neg (fun hn => hn hse), hcx, if_neg (by rw [within_iff.2 ⟨by omega, by omega⟩]; simp)]
    rw [show cell on b.toNat g.toNat + n + -n = cell on b.toNat g.toNat by omega, setCell_back hbo (by rw [hrow]; exact hgn) rfl]
theorem sumE_range (p : Plan) (on : List (List Int)) (g : Int) : 0 ≤ sumE p on g ∧ sumE p on g ≤ 1200 := by
  unfold sumE
  by_cases h : shelfError p on 0 g = 0
  · rw [if_pos h]
    obtain ⟨h1, h2, h3⟩ := shelfError_zero.1 h
    have hg := isGood_iff.1 h3
    have hl := right_len h1
    obtain ⟨hc1, hc2, hc3, hc4⟩ := right_counts (checkShelf_zero.1 h1).1
    have hs := sum_range h1 (g := g.toNat) (by omega) (k := on.length) (Nat.le_refl _)
    unfold sumOf
    omega
  · rw [if_neg h]; omega
end Wh
