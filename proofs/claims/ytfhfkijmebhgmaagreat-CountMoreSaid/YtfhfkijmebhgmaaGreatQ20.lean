/- Texts of the claim, joined: CountM. -/
import Derived.Maps.OwnOps
import Derived.Maps.OwnIn
import Derived.Maps.OwnSet
import Derived.Maps.Views
import Derived.Test.YtfhfkijmebhgmaaGreatQ19
namespace Wh
open Go Go.RowKit Go.Shelf Go.Proofs Go.Maps

abbrev keyL (x : Int) : Lit := .int .i64 x
theorem keyL_is (x : Int) : WideAt.IsKeyLit (keyL x) := trivial
/-- What the map says of the holds from place j on. -/
structure CutMap (s : State) (b g : Nat) (l : List Hold) (j : Nat) (D : DataW Unit) : Prop where
  map : IsMap D
  keys : ∀ x : Int, has D (keyL x) = true ↔ ∃ i, ∃ hi : i < s.holds.length, j ≤ i ∧ (hdC s b g).is s.holds[i] = true ∧ x = s.holds[i].order * 3 + s.holds[i].line
  vals : ∀ o k : Nat, k < 3 → has D (keyL ((o : Int) * 3 + k)) = true → ∀ z, D.atKey (keyL ((o : Int) * 3 + k)) z = .lit (.int .i64 (keptAt s.holds o k b - keptAt l o k b))
section
variable {s : State} {b g : Nat} {l : List Hold} {j : Nat} {D : DataW Unit}
theorem CutMap.start : CutMap s b g s.holds s.holds.length (.map []) := by
  refine ⟨⟨_, rfl⟩, fun x => ⟨fun h => (by cases h), ?_⟩, fun o k _ h => (by cases h)⟩
  rintro ⟨i, hi, hj, _⟩
  omega
theorem CutMap.congr {l' : List Hold} (h : CutMap s b g l j D) (he : ∀ o k : Nat, keptAt l' o k b = keptAt l o k b) : CutMap s b g l' j D := ⟨h.map, h.keys, fun o k hk hh z => by rw [h.vals o k hk hh z, he]⟩
theorem CutMap.skip (h : CutMap s b g l (j + 1) D) (hj : j < s.holds.length) (hn : (hdC s b g).is s.holds[j] = false) : CutMap s b g l j D := by
  refine ⟨h.map, fun x => (h.keys x).trans ⟨?_, ?_⟩, h.vals⟩
  · rintro ⟨i, hi, h1, h2, h3⟩
    exact ⟨i, hi, by omega, h2, h3⟩
  · rintro ⟨i, hi, h1, h2, h3⟩
    refine ⟨i, hi, ?_, h2, h3⟩
    rcases Nat.lt_or_ge j i with h4 | h4
    · omega
    · obtain rfl : j = i := by omega
      rw [hn] at h2
      cases h2
theorem CutMap.fresh (h : CutMap s b g l (j + 1) D) (hok : holdsOk s.holds = true) (hj : j < s.holds.length) (hi : (hdC s b g).is s.holds[j] = true) : has D (keyL (s.holds[j].order * 3 + s.holds[j].line)) = false := by
  cases hh : has D (keyL (s.holds[j].order * 3 + s.holds[j].line))
  · rfl
  · obtain ⟨i, hil, h1, h2, h3⟩ := (h.keys _).1 hh
    have hf := (holdsOk_iff.1 hok).1
    have f1 := (fine_iff.1 (hf _ (List.getElem_mem hj))).1
    have f2 := (fine_iff.1 (hf _ (List.getElem_mem hil))).1
    unfold keyOk at f1 f2
    have b1 := (hd_is.1 hi).1
    have b2 := (hd_is.1 h2).1
    have hnd := ok_nodup hok
    have he : hkey s.holds[i] = hkey s.holds[j] := by
      unfold hkey
      simp only [Prod.mk.injEq]
      omega
    have := (List.getElem_inj (xs := s.holds.map hkey) (i := i) (j := j) (h₀ := by simpa using hil) (h₁ := by simpa using hj) hnd).1 (by simpa using he)
    omega
theorem CutMap.put {o k : Nat} {m : Int} (h : CutMap s b g l (j + 1) D) (hok : holdsOk s.holds = true) (hj : j < s.holds.length) (hi : (hdC s b g).is s.holds[j] = true) (ho : s.holds[j].order = o) (hk : s.holds[j].line = k) (hk3 : k < 3)
    (hlk : l.map hkey = s.holds.map hkey) (hlj : j < l.length) (hl : l[j] = s.holds[j]) : CutMap s b g (l.set j { s.holds[j] with n := s.holds[j].n - m }) j (D.put (keyL ((o : Int) * 3 + k)) (.lit (.int .i64 m))) := by
  have hb := (hd_is.1 hi).1
  have hnd := ok_nodup hok
  have hnl : (l.map hkey).Nodup := by rw [hlk]; exact hnd
  have hka := keptAt_at hnd hj
  rw [ho, hk, hb] at hka
  have hset : ∀ o' k' : Nat, keptAt (l.set j { s.holds[j] with n := s.holds[j].n - m }) o' k' b = if o' = o ∧ k' = k then s.holds[j].n - m else keptAt l o' k' b := fun o' k' => by
    have := keptAt_set hnl hlj (s.holds[j].n - m) o' k' b
    rw [hl] at this
    rw [this, ho, hk, hb]
    by_cases hh : o' = o ∧ k' = k
    · rw [if_pos hh, if_pos ⟨by omega, by omega, rfl⟩]
    · rw [if_neg hh, if_neg (fun h2 => hh ⟨by omega, by omega⟩)]
  have hne : ∀ x : Int, x ≠ (o : Int) * 3 + k → keyL x ≠ keyL ((o : Int) * 3 + k) := fun x hx he => by
    injection he with _ he
    exact hx he
  refine ⟨IsMap.put h.map _ _, fun x => ?_, fun o' k' hk' hh z => ?_⟩
  · by_cases hx : x = (o : Int) * 3 + k
    · subst hx
      rw [has_put_same h.map (keyL_is _)]
      exact ⟨fun _ => ⟨j, hj, Nat.le_refl _, hi, by rw [ho, hk]⟩, fun _ => rfl⟩
    · rw [has_put_other (hne x hx), h.keys x]
      constructor
      · rintro ⟨i, hil, h1, h2, h3⟩
        exact ⟨i, hil, by omega, h2, h3⟩
      · rintro ⟨i, hil, h1, h2, h3⟩
        refine ⟨i, hil, ?_, h2, h3⟩
        rcases Nat.lt_or_ge j i with h4 | h4
        · omega
        · obtain rfl : j = i := by omega
          rw [ho, hk] at h3
          exact absurd h3 hx
  · by_cases hx : (o' : Int) * 3 + k' = (o : Int) * 3 + k
    · obtain rfl : o' = o := by omega
      obtain rfl : k' = k := by omega
      rw [atKey_put_same h.map (keyL_is _), hset, if_pos ⟨rfl, rfl⟩, hka]
      congr 3
      omega
    · rw [has_put_other (hne _ hx)] at hh
      rw [atKey_put_other (hne _ hx), h.vals o' k' hk' hh, hset, if_neg (fun h2 => hx (by rw [h2.1, h2.2]))]
end
/-- The blocks that counting writes. -/
def ksH (b mb : Nat) (V : SV) (j : Nat) : Prop := j = b ∨ V.holds.ownBlock = some j ∨ j = mb ∨ ∃ o, o < V.lines.length ∧ (V.line o).ownBlock = some j
structure CutJ (w : World) (base b mb : Nat) (V : SV) (s : State) (bn g : Nat) (ov : Int) (l : List Hold) (j : Nat) (L : List (Nat × Obj)) (W : World) : Prop where
  bx : Bx W base b 95 (cutR bn g ov (.map (some mb))) V (hdS s bn l)
  held : HeldDs L W
  st : Step (ksH b mb V) w W
  mp : ∃ D, CutMap s bn g l j D ∧ W.ownsMap Tryz.prog 3 (plainElem Tryz.prog 3) mb (s.holds.length - j) D
section
variable {w W W' : World} {base b mb bn g j : Nat} {V : SV} {s : State} {ov : Int} {l : List Hold} {L : List (Nat × Obj)}
theorem CutJ.own {B : Nat} (hL : ∀ x ∈ L, x.1 < B) (hB : w.heap.size ≤ B) (hmb : mb < w.heap.size) {rw_ : Option Nat} (hs : CutJ w base b mb V s bn g ov l j L W)
    (hg : W.grownBy W' rw_) (hr : ∀ r, rw_ = some r → B ≤ r ∧ ∃ o : Obj, W.heap[r]? = some o ∧ o.isCells = false) : CutJ w base b mb V s bn g ov l j L W' :=
  ⟨hs.bx.noncell hg fun r e => (hr r e).2, HeldDs.from_ hL () W W' rw_ hs.held hg hr, hs.st.trans' (Step.of_grown (ks := fun k => rw_ = some k) hg fun k e => e) fun k hk e => by have := (hr k e).1; omega,
    hs.mp.elim fun D h => ⟨D, h.1, h.2.kept hg fun he => by have := (hr mb he.symm).1; omega⟩⟩
theorem CutJ.below (h : CutJ w base b mb V s bn g ov l j L W) (hb : Below W.heap.size W W') : CutJ w base b mb V s bn g ov l j L W' :=
  ⟨h.bx.below hb, fun x hx => (hb.block x.1 (h.held.lt x hx)).trans (h.held x hx), h.st.trans (.of_below hb), h.mp.elim fun D h => ⟨D, h.1, h.2.kept (grown_of_below (row := none) hb) (by simp)⟩⟩
theorem CutJ.skip (h : CutJ w base b mb V s bn g ov l (j + 1) L W) (hj : j < s.holds.length) (hn : (hdC s bn g).is s.holds[j] = false) : CutJ w base b mb V s bn g ov l j L W :=
  ⟨h.bx, h.held, h.st, h.mp.elim fun D h => ⟨D, h.1.skip hj hn, h.2.mono (by omega)⟩⟩
end
theorem ownsMap_step {ks : Nat → Prop} {w w' : World} {k : TypeId} {R : Value → Option (DataW Unit × List MemPlace)} {mb n : Nat} {D : DataW Unit} (h : w.ownsMap Tryz.prog k R mb n D) (hs : Step ks w w') (hn : ¬ ks mb) : w'.ownsMap Tryz.prog k R mb n D := by
  obtain ⟨es, clock, hb, F, h1, h2⟩ := h
  exact ⟨es, clock, hs.heap hb hn, F, h1, h2⟩
theorem ownsMap_ne {w : World} {k : TypeId} {R : Value → Option (DataW Unit × List MemPlace)} {mb n g : Nat} {D : DataW Unit} {t : TypeId} {cur : List Value} (h : w.ownsMap Tryz.prog k R mb n D) (hb : Blk w g t cur) : mb ≠ g := fun he => by
  obtain ⟨es, clock, h1, _⟩ := h
  rw [he, show w.heap[g]? = _ from hb] at h1
  injection h1 with h1
  cases h1
theorem ownsMap_obj {w : World} {k : TypeId} {R : Value → Option (DataW Unit × List MemPlace)} {mb n : Nat} {D : DataW Unit} (h : w.ownsMap Tryz.prog k R mb n D) : ∃ o : Obj, w.heap[mb]? = some o ∧ o.isCells = false := by
  obtain ⟨es, clock, h1, _⟩ := h
  exact ⟨_, h1, rfl⟩
theorem keeps_of_step {B : Nat} {ks : Nat → Prop} {W W' : World} (h : Step ks W W') (hk : ∀ j, ks j → j < B) : KeepsFrom B W W' := ⟨h.size, fun k o hB hh _ => h.heap hh fun hj => by have := hk k hj; omega⟩
theorem lawInt : Keyed Tryz.prog 3 := int_keyed Tryz.underlying3
theorem zeroInt (w : World) : (zeroValue 3).run Tryz.prog w = .ok (.int .i64 0) w := by kernel_rfl
theorem keyInt {x : Int} (h : -9223372036854775808 ≤ x ∧ x ≤ 9223372036854775807) : keyOf Tryz.prog 3 (.int .i64 x) = some (keyL x) := keyOf_int_mk Tryz.underlying3 (WalkArith.wf_i64 h)
end Wh
