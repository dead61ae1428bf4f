/- Texts of the claim, joined: HoldsF, WalkS, WalkT. -/
import Derived.RangeFuncNested
import Derived.RangeFuncBox
import Derived.RangeFuncLeaves
import Derived.RangeFuncCalls
import Derived.Shelf.Abstract
import Derived.OwnWalkIn
import Derived.TacticsInMore
import Derived.LoopNIn
import Derived.LoopIn
import Derived.Maps.AppendAt
import Derived.Test.YtijilfghfahgjaaQ14
import Derived.Test.YtijilfghfahgjaaQ04
import Derived.Test.YtijilfghfahgjaaQ07
namespace Wh
open Go Go.RowKit Go.Shelf Go.Proofs
attribute [local go_sem] run_indexAt_letter

def DropPost (l : List Hold) (o ln b : Int) (w : World) (e : Ending) (w' : World) : Prop :=
  ∃ v, e = .returned (.tuple #[v, .int .i64 (drop l o ln b).2.1, .int .i64 (drop l o ln b).2.2]) ∧ Own cHold 4 63 w' w.heap.size v (drop l o ln b).1 ∧ Below w.heap.size w w'
def AddPost (l : List Hold) (h : Hold) (w : World) (e : Ending) (w' : World) : Prop :=
  ∃ v, e = .returned (.tuple #[v, .int .i64 (add l h).2]) ∧ Own cHold 4 63 w' w.heap.size v (add l h).1 ∧ Below w.heap.size w w'

theorem ok_length {l : List Hold} (h : holdsOk l = true) : l.length ≤ 72 := by
  have hr := (holdsOk_iff.1 h).2
  have hf := (holdsOk_iff.1 h).1
  have hp : ∀ x ∈ l, 0 ≤ place x ∧ place x < 72 := fun x hx => by
    have := (fine_iff.1 (hf x hx)).1
    unfold keyOk at this
    unfold place
    omega
  have hn : (l.map fun x => (place x).toNat).Nodup := by
    rw [List.Nodup, List.pairwise_map]
    refine List.Pairwise.imp_of_mem ?_ hr
    intro a b ha hb hab
    have h1 := hp a ha
    have h2 := hp b hb
    omega
  have hs : (l.map fun x => (place x).toNat) ⊆ List.range 72 := fun n hn' => by
    obtain ⟨x, hx, rfl⟩ := List.mem_map.1 hn'
    have := hp x hx
    exact List.mem_range.2 (by omega)
  have := hn.length_le_of_subset hs
  simpa using this
theorem drop_bad {l : List Hold} {o ln b : Int} (h : holdsOk l = false) : drop l o ln b = ([], 0, 1) := by unfold drop; rw [h]; rfl
theorem drop_none {l : List Hold} {o ln b : Int} (h : holdsOk l = true) (hf : found l ⟨o, ln, b, 0⟩ = false) : drop l o ln b = ([], 0, 4) := by
  unfold drop
  rw [h, if_neg (by simp), if_pos (notFound_kept h hf)]
theorem drop_yes {l : List Hold} {o ln b : Int} (h : holdsOk l = true) (hf : found l ⟨o, ln, b, 0⟩ = true) : drop l o ln b = (l.eraseIdx (pos l ⟨o, ln, b, 0⟩), (hold l (pos l ⟨o, ln, b, 0⟩)).n, 0) := by
  have hk := found_kept h hf
  have hn := ok_n h (found_iff.1 hf).1
  simp only at hk
  unfold drop
  rw [h, if_neg (by simp), hk, if_neg (by omega), with_less h (found_key h hf) rfl hf]

set_option maxHeartbeats 2000000 in
theorem hdDrop (w : World) (v : Value) (l : List Hold) (o ln b : Int) (hv : Sl cHold w w.heap.size v l) :
    Calls Try.prog 31 #[v, .int .i64 o, .int .i64 ln, .int .i64 b] w (DropPost l o ln b w) := by
  have hV := hv
  obtain ⟨A, c, rfl, hl, hA⟩ := hv
  go_enter Try.func31, Try.ntmps31
  go_wp2_with fail
  refine (hdCheck _ _ _ hV).mono ?_
  rintro e W1 ⟨rfl, hb1⟩
  cases hok : holdsOk l
  · have hfin := Lib.hid (drop_bad (o := o) (ln := ln) (b := b) hok)
    have hc : checkHolds l = 1 := by unfold checkHolds; rw [hok]; rfl
    rw [hc]
    clear hc hok
    go_wp2_with fail
    go_ret3
    exact ⟨_, by rw [hfin.out]; rfl, by rw [hfin.out]; exact Own.nil, hb1⟩
  · have hc : checkHolds l = 0 := check_ok.2 hok
    have hlen := ok_length hok
    rw [hc]
    clear hc
    have hok' := Lib.hid hok
    clear hok
    go_wp2_with fail
    refine (hdFind _ _ l ⟨o, ln, b, 0⟩ (hV.grow hb1) hok'.out (by omega)).mono ?_
    rintro e W2 ⟨rfl, hb2⟩
    have hb02 := hb1.trans (hb2.mono hb1.size)
    cases hf : found l ⟨o, ln, b, 0⟩
    · have hfin := Lib.hid (drop_none hok'.out hf)
      clear hf
      go_wp2_with fail
      go_ret3
      exact ⟨_, by rw [hfin.out]; rfl, by rw [hfin.out]; exact Own.nil, hb02⟩
    · have hfin := Lib.hid (drop_yes hok'.out hf)
      have hlt := (found_iff.1 hf).1
      clear hf
      generalize pos l ⟨o, ln, b, 0⟩ = k at hlt hfin ⊢
      obtain ⟨hAok, hAb, b0, b1, b2, b3⟩ := (hA.up hb02 hb02.size).hold hlt
      have hw1 : IntKind.i64.wrap ((k : Int) + 1) = (k : Int) + 1 := by rw [IntKind.wrap_i64]; omega
      have hki : (k : Int) < (l.length : Int) := by omega
      have hVd : Sl cHold W2.drew W2.drew.heap.size (.slice A l.length c) l := (hV.grow hb02).drew
      have hd2 : Below W2.heap.size W2 W2.drew := (Below.refl _ _).drew
      clear b0 b1 b2 hok' hb1 hb2 hA
      go_wp2_with fail
      go_region_held3 (fun w' => w'.cell? ⟨ablk A, aoff A + k * 4 + 3, none⟩ = some (.int .i64 (hold l k).n)) (first | exact z1 | go_keep)
        (first
        | (go_at_call 69; refine (cloneHold _ _ l hVd (by omega)).mono ?_; rintro e W9 ⟨u9, rfl, hu9, hb9⟩; have hd9 := hd2.trans (hb9.mono hd2.size); have z1 := (hd9.cell (p := ⟨_, _, none⟩) hAb).trans b3)
        | (go_at_call 68; refine (delHold _ _ u9 l k hu9 hlt (by omega)).mono ?_; rintro e W10 ⟨u10, rfl, ho10, hg10, hat10⟩; have hd10 := hd9.grown hg10 hd9.size (fun q hq => (hu9.size q hq).1); have z1 := (hd10.cell (p := ⟨_, _, none⟩) hAb).trans b3))
      go_wp2_with fail
      go_ret3
      exact ⟨_, by rw [hfin.out]; rfl, by rw [hfin.out]; exact ho10.from_ hb02.size, hb02.trans (hd10.mono hb02.size)⟩

theorem add_bad {l : List Hold} {h : Hold} (hb : holdsOk l = false ∨ holdFine h = false) : add l h = ([], 1) := by
  unfold add
  rcases hb with hb | hb
  · rw [hb]; rfl
  · cases holdsOk l
    · rfl
    · rw [hb]; rfl
theorem add_new {l : List Hold} {h : Hold} (h1 : holdsOk l = true) (h2 : holdFine h = true) (hf : found l h = false) : add l h = (l.take (pos l h) ++ h :: l.drop (pos l h), 0) := by
  have hk := notFound_kept h1 hf
  obtain ⟨k1, k2, k3⟩ := fine_iff.1 h2
  unfold add
  rw [h1, h2, if_neg (by simp), if_neg (by simp), hk, if_neg (by omega)]
  have e : ({ h with n := 0 + h.n } : Hold) = h := by cases h; simp
  rw [e, with_new h1 k1 (by omega) hf]
theorem add_full {l : List Hold} {h : Hold} (h1 : holdsOk l = true) (h2 : holdFine h = true) (hf : found l h = true) (hn : 200 < (hold l (pos l h)).n + h.n) : add l h = ([], 3) := by
  have hk := found_kept h1 hf
  unfold add
  rw [h1, h2, if_neg (by simp), if_neg (by simp), hk, if_pos hn]
theorem add_more {l : List Hold} {h : Hold} (h1 : holdsOk l = true) (h2 : holdFine h = true) (hf : found l h = true) (hn : (hold l (pos l h)).n + h.n ≤ 200) :
    add l h = (l.set (pos l h) { hold l (pos l h) with n := (hold l (pos l h)).n + h.n }, 0) := by
  have hk := found_kept h1 hf
  obtain ⟨f1, f2⟩ := found_iff.1 hf
  obtain ⟨e1, e2, e3⟩ := ord_zero.1 f2
  have hn1 := ok_n h1 f1
  have hn2 := (fine_iff.1 h2).2
  unfold add
  rw [h1, h2, if_neg (by simp), if_neg (by simp), hk, if_neg (by omega)]
  rw [with_more h1 (h := { h with n := (hold l (pos l h)).n + h.n }) (fine_iff.1 h2).1 (by simp only; omega) (by rw [found_n]; exact hf), pos_n]
  simp only [e1, e2, e3]

set_option maxHeartbeats 4000000 in
theorem hdAdd (w : World) (v : Value) (l : List Hold) (h : Hold) (hv : Sl cHold w w.heap.size v l) :
    Calls Try.prog 102 #[v, vHold h] w (AddPost l h w) := by
  have hV := hv
  obtain ⟨A, c, rfl, hl, hA⟩ := hv
  have hb0 : Below w.heap.size w (w.alloc (.cells #[.int .i64 (h).order, .int .i64 (h).line, .int .i64 (h).bin, .int .i64 (h).n] 63)) := (Below.refl _ _).alloc (Nat.le_refl _) _
  unfold vHold
  go_enter Try.func102, Try.ntmps102
  go_wp2_with fail
  refine (hdCheck _ _ _ (hV.grow hb0)).mono ?_
  rintro e W1 ⟨rfl, hb1⟩
  have hb01 := hb0.trans (hb1.mono hb0.size)
  have hsz := hb1.size
  obtain ⟨hc1, hf1⟩ := bcell hb1
  cases hok : holdsOk l
  · have hfin := Lib.hid (add_bad (h := h) (.inl hok))
    have hc : checkHolds l = 1 := by unfold checkHolds; rw [hok]; rfl
    rw [hc]
    clear hc hok
    go_wp2_with fail
    go_ret2
    exact ⟨_, by rw [hfin.out]; rfl, by rw [hfin.out]; exact Own.nil, hb01⟩
  · have hc : checkHolds l = 0 := check_ok.2 hok
    have hlen := ok_length hok
    rw [hc]
    clear hc
    have hok' := Lib.hid hok
    clear hok
    go_wp2_with fail
    refine (hdFine h _).mono ?_
    rintro e W2 ⟨rfl, hb2⟩
    have hb12 := hb1.trans (hb2.mono hb1.size)
    have hb02 := hb0.trans (hb12.mono hb0.size)
    obtain ⟨hc2, hf2⟩ := bcell hb12
    clear hc1 hf1
    cases hfi : holdFine h
    · have hfin := Lib.hid (add_bad (l := l) (.inr hfi))
      go_wp2_with fail
      go_ret2
      exact ⟨_, by rw [hfin.out]; rfl, by rw [hfin.out]; exact Own.nil, hb02⟩
    · have hfi' := Lib.hid hfi
      have hlt2 : w.heap.size < W2.heap.size := by have := hb12.size; simp at this; omega
      go_wp2_with fail
      clear hfi
      refine (hdFind _ _ l h (hV.grow hb02) hok'.out (by omega)).mono ?_
      rintro e W3 ⟨rfl, hb3⟩
      have hb13 := hb12.trans (hb3.mono hb12.size)
      have hb03 := hb0.trans (hb13.mono hb0.size)
      obtain ⟨hc3, hf3⟩ := bcell hb13
      have hlt3 : w.heap.size < W3.heap.size := by have := hb3.size; omega
      obtain ⟨y0, y1, y2, y3⟩ : W3.cell? ⟨w.heap.size, 0, none⟩ = some (.int .i64 h.order) ∧ W3.cell? ⟨w.heap.size, 1, none⟩ = some (.int .i64 h.line) ∧ W3.cell? ⟨w.heap.size, 2, none⟩ = some (.int .i64 h.bin) ∧ W3.cell? ⟨w.heap.size, 3, none⟩ = some (.int .i64 h.n) :=
        ⟨(hc3 _ _ (by simp)).trans (by simp), (hc3 _ _ (by simp)).trans (by simp), (hc3 _ _ (by simp)).trans (by simp), (hc3 _ _ (by simp)).trans (by simp)⟩
      clear hc2 hf2 hc3 hf3 hb1 hb2 hb12 hsz
      have hposl := (pos_spec l h).1
      cases hf : found l h
      · have hfin := Lib.hid (add_new hok'.out hfi'.out hf)
        clear hf
        generalize pos l h = k at hfin hposl ⊢
        have hVd : Sl cHold W3.drew W3.drew.heap.size (.slice A l.length c) l := (hV.grow hb03).drew
        have hd3 : Below W3.heap.size W3 W3.drew := (Below.refl _ _).drew
        have he3 : Below W3.heap.size W3 (W3.drew.alloc (.cells #[.int .i64 (h).order, .int .i64 (h).line, .int .i64 (h).bin, .int .i64 (h).n] 63)) := hd3.alloc (Nat.le_refl _) _
        have hVe := (hV.grow hb03).grow he3
        have hEb : Blk (W3.drew.alloc (.cells #[.int .i64 (h).order, .int .i64 (h).line, .int .i64 (h).bin, .int .i64 (h).n] 63)) W3.heap.size 63 (cHold h) := Blk.new W3.drew 63 #[.int .i64 (h).order, .int .i64 (h).line, .int .i64 (h).bin, .int .i64 (h).n]
        go_wp2_with fail
        go_region_held3 (fun w' => w'.cell? ⟨w.heap.size, 0, none⟩ = some (.int .i64 h.order) ∧ w'.cell? ⟨w.heap.size, 1, none⟩ = some (.int .i64 h.line) ∧ w'.cell? ⟨w.heap.size, 2, none⟩ = some (.int .i64 h.bin) ∧ w'.cell? ⟨w.heap.size, 3, none⟩ = some (.int .i64 h.n)) (first | exact ⟨z1, z2, z3, z4⟩ | go_keep)
          (first
          | (go_at_call 69; refine (cloneHold _ _ l hVd (by omega)).mono ?_; rintro e W9 ⟨u9, rfl, hu9, hb9⟩; have hd9 := hd3.trans (hb9.mono hd3.size); have z1 := (hd9.cell (p := ⟨w.heap.size, 0, none⟩) hlt3).trans y0; have z2 := (hd9.cell (p := ⟨w.heap.size, 1, none⟩) hlt3).trans y1; have z3 := (hd9.cell (p := ⟨w.heap.size, 2, none⟩) hlt3).trans y2; have z4 := (hd9.cell (p := ⟨w.heap.size, 3, none⟩) hlt3).trans y3)
          | (go_at_call 69; refine (cloneHold _ _ l hVe (by omega)).mono ?_; rintro e W19 ⟨u19, rfl, hu19, hb19⟩; have hd19 := he3.trans (hb19.mono he3.size); have i13 := hEb.below hb19 (by simp); have z1 := (hd19.cell (p := ⟨w.heap.size, 0, none⟩) hlt3).trans y0; have z2 := (hd19.cell (p := ⟨w.heap.size, 1, none⟩) hlt3).trans y1; have z3 := (hd19.cell (p := ⟨w.heap.size, 2, none⟩) hlt3).trans y2; have z4 := (hd19.cell (p := ⟨w.heap.size, 3, none⟩) hlt3).trans y3)
          | (go_at_call 122; have i1 := hu9.alloc (.cells #[.int .i64 (h).order, .int .i64 (h).line, .int .i64 (h).bin, .int .i64 (h).n] 63); have i2 : W3.drew.heap.size ≤ (W9.alloc (.cells #[.int .i64 (h).order, .int .i64 (h).line, .int .i64 (h).bin, .int .i64 (h).n] 63)).heap.size := (by have := hd9.size; simp; omega); have i3 : Blk (W9.alloc (.cells #[.int .i64 (h).order, .int .i64 (h).line, .int .i64 (h).bin, .int .i64 (h).n] 63)) W9.heap.size 63 (cHold h) := Blk.new W9 63 #[.int .i64 (h).order, .int .i64 (h).line, .int .i64 (h).bin, .int .i64 (h).n]; have i4 : u9.ownBlock ≠ some W9.heap.size := (fun hq => (Nat.lt_irrefl _ (hu9.size _ hq).2)); refine (insHold _ _ u9 l h k W9.heap.size i1 hposl (by omega) i2 i3 i4).mono ?_; rintro e W10 ⟨u10, rfl, ho10, hb10⟩; have hd10 := (hd9.alloc hd9.size (.cells #[.int .i64 (h).order, .int .i64 (h).line, .int .i64 (h).bin, .int .i64 (h).n] 63)).trans hb10; have z1 := (hd10.cell (p := ⟨w.heap.size, 0, none⟩) hlt3).trans y0; have z2 := (hd10.cell (p := ⟨w.heap.size, 1, none⟩) hlt3).trans y1; have z3 := (hd10.cell (p := ⟨w.heap.size, 2, none⟩) hlt3).trans y2; have z4 := (hd10.cell (p := ⟨w.heap.size, 3, none⟩) hlt3).trans y3)
          | (go_at_call 122; have i14 : u19.ownBlock ≠ some W3.heap.size := (fun hq => (by have := (hu19.size _ hq).1; simp at this; omega)); refine (insHold _ _ u19 l h k W3.heap.size hu19 hposl (by omega) hb19.size i13 i14).mono ?_; rintro e W10 ⟨u10, rfl, ho10, hb10⟩; have hd10 := hd19.trans (hb10.mono he3.size); have z1 := (hd10.cell (p := ⟨w.heap.size, 0, none⟩) hlt3).trans y0; have z2 := (hd10.cell (p := ⟨w.heap.size, 1, none⟩) hlt3).trans y1; have z3 := (hd10.cell (p := ⟨w.heap.size, 2, none⟩) hlt3).trans y2; have z4 := (hd10.cell (p := ⟨w.heap.size, 3, none⟩) hlt3).trans y3))
        · go_wp2_with fail
          go_ret2
          exact ⟨_, by rw [hfin.out]; rfl, by rw [hfin.out]; exact ho10.from_ hb03.size, hb03.trans (hd10.mono hb03.size)⟩
        · go_wp2_with fail
          go_ret2
          exact ⟨_, by rw [hfin.out]; rfl, by rw [hfin.out]; exact ho10.from_ (Nat.le_trans hb03.size he3.size), hb03.trans (hd10.mono hb03.size)⟩
      · have hlt := (found_iff.1 hf).1
        obtain ⟨hAok, hAb, b0, b1, b2, b3⟩ := (hA.up hb03 hb03.size).hold hlt
        have hn1 := ok_n hok'.out hlt
        have hn2 := (fine_iff.1 hfi'.out).2
        have hw1 : IntKind.i64.wrap ((hold l (pos l h)).n + h.n) = (hold l (pos l h)).n + h.n := by rw [IntKind.wrap_i64]; omega
        by_cases hbig : 200 < (hold l (pos l h)).n + h.n
        · have hfin := Lib.hid (add_full hok'.out hfi'.out hf hbig)
          clear hf
          generalize pos l h = k at hlt hfin hw1 hbig hn1 b0 b1 b2 b3 ⊢
          have hki : (k : Int) < (l.length : Int) := by omega
          clear hn1 hn2
          go_wp2_with fail
          go_quiet (fail)
          clear hw1
          go_wp2_with fail
          go_ret2
          exact ⟨_, by rw [hfin.out]; rfl, by rw [hfin.out]; exact Own.nil, below_drewN hb03 _⟩
        · have hle : (hold l (pos l h)).n + h.n ≤ 200 := by omega
          have hfin := Lib.hid (add_more hok'.out hfi'.out hf hle)
          clear hf hbig
          generalize pos l h = k at hlt hfin hw1 hle hn1 b0 b1 b2 b3 ⊢
          have hki : (k : Int) < (l.length : Int) := by omega
          go_wp2_with fail
          go_quiet (fail)
          have hbq : Below W3.heap.size W3 (W3.drewN nq) := below_drewN (Below.refl _ _) nq
          go_wp2_with fail
          refine (cloneHold _ _ l ((hV.grow hb03).grow hbq) (by omega)).mono ?_
          rintro e W9 ⟨u9, rfl, hu9, hb9⟩
          obtain ⟨g, c9, rfl, hgb, hgl⟩ := hu9.some_ (by omega)
          have hd9 := hbq.trans (hb9.mono hbq.size)
          have x3 := (hd9.cell (p := ⟨w.heap.size, 3, none⟩) hlt3).trans y3
          have hc9 : W9.cell? ⟨g, k * 4 + 3, none⟩ = some (.int .i64 (hold l k).n) := by
            rw [World.ownsRow.cellAt hu9 (k * 4 + 3) (by omega), flat_get cHold 4 (fun _ => rfl) l k 3 (hold l k) (by rw [hold_get hlt]; simp) (by omega)]
            rfl
          have hf9 : W9.frozen? ⟨g, k * 4 + 3, none⟩ = false := World.ownsRow.frozenAt hu9 _
          obtain ⟨ho9, hg9⟩ := Own.store (y := { hold l k with n := (hold l k).n + h.n }) (u := .int .i64 ((hold l k).n + h.n)) hu9 (fun _ => rfl) hlt (show 3 < 4 by omega) (by rw [← hold_get hlt]; rfl)
          have hgne : g ≠ w.heap.size := by have := hlt3; have := hgb; simp at this; omega
          have ho9' := Lib.hid ho9
          have hg9' := Lib.hid hg9
          clear ho9 hg9
          go_wp2_with fail
          go_region
          go_wp2_with fail
          go_ret2
          exact ⟨_, by rw [hfin.out]; rfl, by rw [hfin.out]; exact (ho9'.out.from_ (Nat.le_trans hb03.size hbq.size)).drew, hb03.trans ((hd9.grown hg9'.out hd9.size (fun q hq => by cases hq; exact hgb)).drew.mono hb03.size)⟩
end Wh
namespace Wh
open Go Go.RowKit Go.Shelf Go.Proofs
attribute [local go_sem] run_indexAt_letter
attribute [local go_sem] Oper.semAt_some

/-- What a round of the loop's user keeps: what lay below n₀, and the one box. -/
def KpB (n₀ Bf : Nat) (W W' : World) : Prop := Below n₀ W W' ∧ W'.cell? ⟨Bf, 0, none⟩ = W.cell? ⟨Bf, 0, none⟩
set_option maxRecDepth 100000 in
set_option maxHeartbeats 2000000 in
theorem bins1_in (F : Fence) (n : Nat) (h7 : F.fn 75) (hro : F.round = none) (hn : 1 ≤ n) (l Bp Bf n₀ : Nat) (p : Plan) (f : Bool) (Ab As : Option Addr) (cb cs : Nat) (hlb : p.bins.length ≤ 6) (J Jx : List Nat → World → Prop)
    (hY : ∀ (pre : List Nat) (x : Nat) W, J pre W → pre.length < p.bins.length → YieldAt F (n - 1) Try.prog l #[.int .i64 ((x : Nat) : Int)] W fun e W' =>
      (e = .returned (.bool true) ∧ J (pre ++ [x]) W' ∧ KpB n₀ Bf W W') ∨ (e = .returned (.bool false) ∧ Jx (pre ++ [x]) W'))
    (W : World) (hn0 : n₀ ≤ W.heap.size) (hJ : AbidesFrom W.heap.size J) (hBf : Bf < W.heap.size) (hp0 : W.cell? ⟨Bp, 0, none⟩ = some (.slice Ab p.bins.length cb)) (_ : W.cell? ⟨Bp, 1, none⟩ = some (.slice As p.sizes.length cs))
    (hf : W.cell? ⟨Bf, 0, none⟩ = some (.bool f)) (hA : At W n₀ Ab (p.bins.flatMap cBin)) (h0 : J [] W) :
    CallsIn F n Try.prog 75 #[.func (.yield l) #[] #[], .pointer (some ⟨Bp, 0, none⟩), .pointer (some ⟨Bf, 0, none⟩)] W fun e W' => (∃ v, e = .returned v) ∧
      ((∃ ys, ys = kinds p f ∧ J ys W') ∨ (∃ pre, (∃ k, k ≤ p.bins.length ∧ pre = kindsTo p f k) ∧ Jx pre W')) := by
  refine callsIn_of_wp Try.func75 rfl h7 ?_ hro
  simp only [Try.ntmps75, List.size_toArray, List.length_cons, List.length_nil, Nat.reduceAdd, Nat.reduceSub, Array.replicate_succ, Array.replicate_zero, List.push_toArray, List.append_toArray, List.nil_append, List.cons_append]
  gi_wp2
  gi_loopw [9] (fun i wr => ∃ k : Nat, k ≤ p.bins.length ∧ i = .int .i64 k ∧ J (kindsTo p f k) wr ∧ KpB n₀ Bf W wr)
    (fun i _ => p.bins.length - (intOf i).toNat)
  case atStart => exact ⟨0, Nat.zero_le _, rfl, h0, Below.refl _ _, rfl⟩
  case round =>
    obtain ⟨k, hk, rfl, hJs, hnx, hnf⟩ := hrel
    by_cases hlt : k < p.bins.length
    · obtain ⟨hok, hAb, b0, b1, b2, b3⟩ := (hA.up hnx (Nat.le_refl _)).bin hlt
      have g0 := hnf.trans hf
      have hBw : Bf < wr.heap.size := by have := hnx.size; omega
      have hJa := hJ _ _ _ none hJs (World.grownBy_alloc wr (.cells #[.bool (binAt p.bins k).front, .int .i64 (binAt p.bins k).room, .int .i64 (binAt p.bins k).low, .int .i64 (binAt p.bins k).high] 42) none) (fun r h => by cases h)
      have hBa : Below n₀ wr (wr.alloc (.cells #[.bool (binAt p.bins k).front, .int .i64 (binAt p.bins k).room, .int .i64 (binAt p.bins k).low, .int .i64 (binAt p.bins k).high] 42)) := (Below.refl _ _).alloc (by have := hnx.size; omega) _
      have hca : (wr.alloc (.cells #[.bool (binAt p.bins k).front, .int .i64 (binAt p.bins k).room, .int .i64 (binAt p.bins k).low, .int .i64 (binAt p.bins k).high] 42)).cell? ⟨Bf, 0, none⟩ = wr.cell? ⟨Bf, 0, none⟩ :=
        ((Below.refl wr.heap.size wr).alloc (Nat.le_refl _) _).cell (p := ⟨Bf, 0, none⟩) hBw
      cases hfr : ((binAt p.bins k).front == f)
      · have hno := kindsTo_no (p := p) (f := f) (k := k) (by simpa using hfr)
        gi_wp2
        refine ⟨fun _ h => (by cases h), ?_⟩
        gi_wp2
        go_roundw
        case rel => exact ⟨k + 1, by omega, by simp, by rw [hno]; exact hJa, hnx.trans hBa, hca.trans hnf⟩
        case measure => simp [intOf]; omega
      · have hyes := kindsTo_yes (p := p) (f := f) (k := k) (by simpa using hfr)
        obtain ⟨fn, tmps, assign, body, hy, hR⟩ := hY _ k _ hJa (by have := kindsTo_length p f k; omega)
        gi_wp2
        refine hR.mono ?_
        rintro e W3 (⟨rfl, hJ3, hk3⟩ | ⟨rfl, hJx3⟩)
        · gi_wp2
          go_roundw
          case rel => exact ⟨k + 1, by omega, by simp, by rw [hyes]; exact hJ3, (hnx.trans hBa).trans hk3.1, (hk3.2.trans hca).trans hnf⟩
          case measure => simp [intOf]; omega
        · gi_wp2
          refine bodyPost_ret (results_none rfl _ _ _) rfl ?_
          exact ⟨⟨_, rfl⟩, .inr ⟨_, ⟨k + 1, by omega, hyes.symm⟩, hJx3⟩⟩
    · obtain rfl : k = p.bins.length := by omega
      gi_wp2
      go_end0
      exact ⟨⟨_, rfl⟩, .inl ⟨_, rfl, hJs⟩⟩

theorem bins_in (F : Fence) (n : Nat) (h : F.fn 36) (hro : F.round = none) (v0 v1 : Value) (f : Bool) (w : World) :
    CallsIn F n Try.prog 36 #[.agg #[v0, v1], .bool f] w fun e w' => e = .returned (.func (.func 75) #[] #[.pointer (some ⟨w.heap.size, 0, none⟩), .pointer (some ⟨w.heap.size + 1, 0, none⟩)]) ∧
      w' = (w.alloc (.cells #[v0, v1] 25)).alloc (.cells #[.bool f] 4) := by
  refine callsIn_of_wp Try.func36 rfl h ?_ hro
  simp only [Try.ntmps36, List.size_toArray, List.length_cons, List.length_nil, Nat.reduceAdd, Nat.reduceSub, Array.replicate_succ, Array.replicate_zero, List.push_toArray, List.append_toArray, List.nil_append, List.cons_append]
  gi_wp2
  go_ret
  exact ⟨rfl, rfl⟩

theorem bins_stops (F : Fence) (n : Nat) (h7 : F.fn 75) (hro : F.round = none) (hn : 1 ≤ n) (Bp Bf n₀ : Nat) (p : Plan) (f : Bool) (Ab As : Option Addr) (cb cs : Nat) (hlb : p.bins.length ≤ 6) (w : World) (hn0 : n₀ ≤ w.heap.size) (hBp : Bp < w.heap.size) (hBf : Bf < w.heap.size)
    (hp0 : w.cell? ⟨Bp, 0, none⟩ = some (.slice Ab p.bins.length cb)) (hp1 : w.cell? ⟨Bp, 1, none⟩ = some (.slice As p.sizes.length cs)) (hf : w.cell? ⟨Bf, 0, none⟩ = some (.bool f)) (hA : At w n₀ Ab (p.bins.flatMap cBin)) :
    SeqStopsK F n Try.prog 75 #[.pointer (some ⟨Bp, 0, none⟩), .pointer (some ⟨Bf, 0, none⟩)] (fun x : Nat => #[Value.int .i64 ((x : Nat) : Int)]) (KpB n₀ Bf) (fun ys => ys = kinds p f) (fun pre => ∃ k, k ≤ p.bins.length ∧ pre = kindsTo p f k) p.bins.length w := fun l J Jx W hW hJ _ hY h0 =>
  bins1_in F n h7 hro hn l Bp Bf n₀ p f Ab As cb cs hlb J Jx hY W (Nat.le_trans hn0 hW.size) hJ (Nat.lt_of_lt_of_le hBf hW.size) ((hW.cell (p := ⟨Bp, 0, none⟩) hBp).trans hp0) ((hW.cell (p := ⟨Bp, 1, none⟩) hBp).trans hp1)
    ((hW.cell (p := ⟨Bf, 0, none⟩) hBf).trans hf) (hA.up (hW.mono hn0) (Nat.le_refl _)) h0
end Wh
namespace Wh
open Go Go.RowKit Go.Shelf Go.Proofs
attribute [local go_sem] run_indexAt_letter
attribute [local go_sem] Oper.semAt_some

/-- These blocks lie as they are given. -/
def HeldDs (L : List (Nat × Obj)) (W : World) : Prop := ∀ x ∈ L, W.heap[x.1]? = some x.2
theorem HeldDs.lt {L : List (Nat × Obj)} {W : World} (h : HeldDs L W) : ∀ x ∈ L, x.1 < W.heap.size := fun x hx => (Array.getElem?_eq_some_iff.1 (h x hx)).1
theorem HeldDs.grown {L : List (Nat × Obj)} {W W' : World} {row : Option Nat} (h : HeldDs L W) (hg : W.grownBy W' row) (hne : ∀ x ∈ L, some x.1 ≠ row) : HeldDs L W' := fun x hx => (hg.block x.1 (h.lt x hx) (hne x hx)).trans (h x hx)
theorem HeldDs.alloc {L : List (Nat × Obj)} {W : World} (h : HeldDs L W) (o : Obj) : HeldDs L (W.alloc o) := h.grown (World.grownBy_alloc W o none) (fun _ _ e => by cases e)
theorem HeldDs.setCell {L : List (Nat × Obj)} {W : World} (h : HeldDs L W) (B : Nat) (u : Value) (hne : ∀ x ∈ L, x.1 ≠ B) : HeldDs L (W.setCell ⟨B, 0, none⟩ u) := h.grown (grownBy_setCell' W B u) (fun x hx e => hne x hx (by cases e; rfl))
theorem HeldDs.not_row {L : List (Nat × Obj)} {W : World} {e : TypeId} (h : HeldDs L W) (ht : ∀ x ∈ L, ∀ cs sp, x.2 ≠ .cells cs e sp) {base size k : Nat} {v : Value} {xs : List Value} (hr : W.ownsRow base e size v k xs) : ∀ x ∈ L, some x.1 ≠ v.ownBlock := by
  intro x hx
  rcases hr.2 with ⟨rfl, _⟩ | ⟨g, cap, cur, rfl, _, hgb, _⟩
  · simp [Value.ownBlock]
  · intro e'
    obtain ⟨i, o⟩ := x
    obtain rfl : i = g := by simpa [Value.ownBlock] using e'
    have h1 := h _ hx
    simp only at h1
    rw [hgb] at h1
    exact ht _ hx _ _ (Option.some.inj h1).symm
theorem HeldDs.from_ {β : Type} {B : Nat} {L : List (Nat × Obj)} (hB : ∀ x ∈ L, x.1 < B) : OwnFrom B (fun (_ : β) W => HeldDs L W) := fun _ _ _ _ hs hg hr => hs.grown hg (fun x hx e => by
  have := (hr x.1 e.symm).1
  have := hB x hx
  omega)
theorem cell_of_heap {W : World} {B j : Nat} {vs : Array Value} {t : TypeId} {v : Value} (h : W.heap[B]? = some (.cells vs t (0, 0))) (hj : vs[j]? = some v) : W.cell? ⟨B, j, none⟩ = some v := by
  simp [World.cell?, h, hj]
theorem heap_alloc_old {W : World} {o : Obj} {B : Nat} (h : B < W.heap.size) : (W.alloc o).heap[B]? = W.heap[B]? := Below.heap_alloc W o B h
theorem heap_alloc_at {W : World} {o : Obj} {B : Nat} (h : B = W.heap.size) : (W.alloc o).heap[B]? = some o := by
  subst h
  exact World.alloc_heap_new W o
theorem cell_lt' {w : World} {a : Addr} {v : Value} (h : w.cell? a = some v) : a.block < w.heap.size := by
  by_cases hlt : a.block < w.heap.size
  · exact hlt
  · unfold World.cell? at h
    rw [Array.getElem?_eq_none (by omega)] at h
    simp at h

def outI (n₀ Bo : Nat) (pre0 : List Nat) (L : List (Nat × Obj)) (W0 : World) (pre : List Nat) (W : World) : Prop :=
  ((∃ u, Boxed W Bo 23 u ∧ Own cInt 1 3 W n₀ u (nats (pre0 ++ pre)) ∧ True) ∧ HeldDs L W) ∧ Below n₀ W0 W

set_option maxRecDepth 100000 in
set_option maxHeartbeats 4000000 in
theorem wayLoop (Q : Exit → Act → World → Prop) (ds : List Deferred) (W0 : World) (Bo Bp Bf n₀ : Nat) (u : Value) (pre0 : List Nat) (L : List (Nat × Obj)) (p : Plan) (f : Bool) (Ab As : Option Addr) (cb cs : Nat) (hlb : p.bins.length ≤ 6) (hl0 : pre0.length ≤ 6)
    (t0 t1 t2 t3 t4 t6 t7 t8 t9 t10 t11 t12 t13 t14 t15 t16 t17 t18 t19 t20 t21 t23 t24 t25 t26 t27 t28 t29 : Value) (hn0 : n₀ ≤ W0.heap.size) (hBo : n₀ ≤ Bo)
    (hp0 : W0.cell? ⟨Bp, 0, none⟩ = some (.slice Ab p.bins.length cb)) (hp1 : W0.cell? ⟨Bp, 1, none⟩ = some (.slice As p.sizes.length cs)) (hA : At W0 n₀ Ab (p.bins.flatMap cBin))
    (hbox : Boxed W0 Bo 23 u) (hown : Own cInt 1 3 W0 n₀ u (nats pre0)) (hL : HeldDs L W0) (hLf : (Bf, Obj.cells #[.bool f] 4 (0, 0)) ∈ L) (hLt : ∀ x ∈ L, ∀ cs sp, x.2 ≠ .cells cs 3 sp) (hLo : ∀ x ∈ L, x.1 ≠ Bo)
    (hdone : ∀ (D : Nat) (W : World), W0.heap.size ≤ D → outI n₀ Bo pre0 L W0 (kinds p f) W → W.heap[D]? = some (.deferred (some [])) → Q .normal { tmps := #[t0, t1, t2, t3, t4, .pointer (some ⟨Bo, 0, none⟩), t6, t7, t8, t9, t10, t11, t12, t13, t14, t15, t16, t17, t18, t19, t20, t21, .func (.func 75) #[] #[.pointer (some ⟨Bp, 0, none⟩), .pointer (some ⟨Bf, 0, none⟩)], t23, t24, t25, t26, t27, t28, t29], defers := { target := .collected D, args := #[] } :: ds } W) :
    (Code.rangeFunc (Operand.tmp 22) #[23] (Code.region 9 #[{ dst := some 8, op := Op.assign (Operand.tmp 23), type := 3, pos := "plan.go:45", after := #[], guard := none }] false)
      (Code.block 3 (Code.region 10 #[
        { dst := some 24, op := Op.load 23 (Operand.tmp 5), type := 23, pos := "plan.go:46", after := #[], guard := none },
        { dst := some 25, op := Op.move (Operand.tmp 8), type := 3, pos := "plan.go:46", after := #[], guard := none },
        { dst := some 26, op := Op.buildSlice 23 1 #[(0, Operand.tmp 25)], type := 23, pos := "plan.go:46", after := #[{ on := 1, ground := Ground.data }], guard := none },
        { dst := some 27, op := Op.call { callee := Callee.builtin Builtin.append, args := #[Operand.tmp 24, Operand.tmp 26], argTypes := #[23, 23] }, type := 23, pos := "plan.go:46", after := #[{ on := 0, ground := Ground.data }, { on := 2, ground := Ground.data }], guard := none },
        { dst := none, op := Op.store 23 (Operand.tmp 5) (Operand.tmp 27), type := 0, pos := "plan.go:46", after := #[{ on := 3, ground := Ground.data }, { on := 3, ground := Ground.chain }, { on := 0, ground := Ground.phase }, { on := 1, ground := Ground.phase }, { on := 2, ground := Ground.phase }, { on := 3, ground := Ground.phase }], guard := none }] false))).wpIn Fence.wide 5 Try.prog Q
      { tmps := #[t0, t1, t2, t3, t4, .pointer (some ⟨Bo, 0, none⟩), t6, t7, t8, t9, t10, t11, t12, t13, t14, t15, t16, t17, t18, t19, t20, t21, .func (.func 75) #[] #[.pointer (some ⟨Bp, 0, none⟩), .pointer (some ⟨Bf, 0, none⟩)], t23, t24, t25, t26, t27, t28, t29], defers := ds } W0 := by
  have bF : W0.cell? ⟨Bf, 0, none⟩ = some (.bool f) := Boxed.cell (hL _ hLf)
  have hBf : Bf < W0.heap.size := hL.lt _ hLf
  have hBpl : Bp < W0.heap.size := cell_lt' hp0
  refine wpIn_rangeFunc_ownG rfl (by omega) (gf := 75) (lb := #[.pointer (some ⟨Bp, 0, none⟩), .pointer (some ⟨Bf, 0, none⟩)]) rfl trivial (enters_of Try.func75 (by kernel_rfl) rfl)
    (bins_stops Fence.wide (5 - 1) trivial rfl (by omega) Bp Bf n₀ p f Ab As cb cs hlb W0 hn0 hBpl hBf hp0 hp1 bF hA)
    (fun h k => ⟨h.1.trans k.1, k.2.trans h.2⟩)
    (fun W l o o' hl ho hc hw => ⟨belowK_b hn0 W l o o' hl ho hc hw, ((Below.refl W0.heap.size W).grown (grownBy_putObj' W l o') (by have := (Array.getElem?_eq_some_iff.1 ho).1; omega) (fun k e => by cases e; exact hl)).cell (p := ⟨Bf, 0, none⟩) hBf⟩)
    (Below.refl _ _) (fun _ => rfl)
    (outI n₀ Bo pre0 L W0)
    (fun _ _ _ => False)
    (OwnFrom.and (OwnFrom.and (Own.from (holdsRow_own n₀ Bo 23 3 1 (fun pre => (nats (pre0 ++ pre)).length) (fun pre => (nats (pre0 ++ pre)).flatMap cInt) (fun _ _ => True)) _) (HeldDs.from_ hL.lt)) (ownFrom_below hn0 hn0))
    (fun _ _ _ _ _ hs _ _ => hs)
    ⟨⟨⟨u, hbox, by simpa using hown, trivial⟩, hL⟩, Below.refl _ _⟩
    (fun x => { tmps := #[t0, t1, t2, t3, t4, .pointer (some ⟨Bo, 0, none⟩), t6, t7, .int .i64 ((x : Nat) : Int), t9, t10, t11, t12, t13, t14, t15, t16, t17, t18, t19, t20, t21, .func (.func 75) #[] #[.pointer (some ⟨Bp, 0, none⟩), .pointer (some ⟨Bf, 0, none⟩)], .int .i64 ((x : Nat) : Int), t24, t25, t26, t27, t28, t29], defers := [] }) ?assign ?body ?done ?stop
  case assign =>
    intro l x W K hK
    gi_wp2
    exact hK
  case body =>
    rintro l pre x W ⟨⟨⟨v, hv, hrow, _⟩, hH⟩, hB⟩ hlt
    have hc := hv.cell
    have hlen : (nats (pre0 ++ pre)).length ≤ 12 := by rw [nats_length, List.length_append]; omega
    obtain ⟨i0, hi, hz0, hz1, hz2⟩ := elem_of (P := Try.prog) (e := 3) (z := .int .i64 0) (size := 1) (bytes := 8) (by kernel_rfl)
    have u23 : Try.prog.underlying 23 = some (.slice 3) := by kernel_rfl
    gi_wp2_with (gi_at_builtin; refine wpListIn_append_own _ rfl _ _ 23 rfl n₀ 3 i0 (.int .i64 0) 1 8 u23 hi hz0 hz1 hz2 rfl (by decide) _ _ _ rfl (World.ownsRow.alloc hrow _) ⟨W.heap.size, 0, none⟩ 1 1 [.int .i64 ((x : Nat) : Int)] rfl rfl (cell_one_new _ _ _) (by simp [Value.oneCell']) (by unfold maxLen; omega) (by omega) (by have := hB.size; simp; omega) ?_; intro v' w1 hown' hgrow _; obtain ⟨g', cap', rfl⟩ := ownsRow_succ hown'; obtain ⟨hv1, hv2, hr2, hk2, hb2⟩ := hv.appended (by decide) hrow (Nat.le_trans hn0 hB.size) hBo hown' hgrow; have hc1 := hv1.cell; have hf1 := hv1.frozen)
    have hH' := ((hH.alloc _).grown hgrow (hH.not_row hLt hrow)).setCell Bo (.slice (some ⟨g', 0, none⟩) ((nats (pre0 ++ pre)).length + 1) cap') hLo
    refine ⟨hk2.from _, ⟨hb2, (Boxed.cell (hH' _ hLf)).trans (Boxed.cell (hH _ hLf)).symm⟩, ⟨⟨_, hv2, ?_, trivial⟩, hH'⟩, hB.trans hb2⟩
    unfold Own
    have e1 : nats (pre0 ++ (pre ++ [x])) = nats (pre0 ++ pre) ++ [(x : Int)] := by simp [nats]
    have e2 : (nats (pre0 ++ pre) ++ [(x : Int)]).length = (nats (pre0 ++ pre)).length + 1 := by simp
    have e3 : (nats (pre0 ++ pre) ++ [(x : Int)]).flatMap cInt = (nats (pre0 ++ pre)).flatMap cInt ++ [.int .i64 ((x : Nat) : Int)] := by rw [List.flatMap_append]; simp [cInt]
    rw [e1, e2, e3]
    exact hr2
  case done =>
    rintro D ys W hD rfl hI hK
    exact hdone D W hD hI hK
  case stop =>
    rintro D c pre W _ _ h _
    exact h.elim

set_option maxRecDepth 100000 in
set_option maxHeartbeats 4000000 in
theorem planWayOwn (w : World) (v : Value) (p : Plan) (hp : PlanV w w.heap.size v p) :
    Calls Try.prog 101 #[v] w fun e w' => ∃ u, e = .returned (.tuple #[u, .int .i64 (checkPlan p)]) ∧ Own cInt 1 3 w' w.heap.size u (if checkPlan p = 0 then nats (way p) else []) ∧ Below w.heap.size w w' := by
  have hP := hp
  obtain ⟨_, _, rfl, ⟨Ab, cb, rfl, hlb, hb⟩, ⟨As, cs, rfl, hls, hs⟩⟩ := hp
  have hb0 : Below w.heap.size w (w.alloc (.cells #[.slice Ab p.bins.length cb, .slice As p.sizes.length cs] 25)) := (Below.refl _ _).alloc (Nat.le_refl _) _
  refine (callsIn_wide (n := 5)).1 ?_
  refine callsIn_of_wp_marks Try.func101 rfl trivial ?_ rfl
  simp only [Try.ntmps101, List.size_toArray, List.length_cons, List.length_nil, Nat.reduceAdd, Nat.reduceSub, Array.replicate_succ, Array.replicate_zero, List.push_toArray, List.append_toArray, List.nil_append, List.cons_append]
  gi_wp2_with fail
  refine ⟨trivial, (callsIn_wide.2 (planCheck _ _ p (hP.grow hb0))).mono ?_⟩
  rintro e W1 ⟨rfl, hb1⟩
  have hbw := hb0.trans (hb1.mono hb0.size)
  obtain ⟨hc1, hf1⟩ := bcell hb1
  have hlt1 : w.heap.size < W1.heap.size := by have := hb1.size; simp at this; omega
  by_cases hz : checkPlan p = 0
  · gi_wp2
    refine wpIn_loop_rounds 3 ?_
    rw [roundsIn_succ]
    gi_wp2_with fail
    refine ⟨trivial, (bins_in Fence.wide 4 trivial rfl _ _ _ _).mono ?_⟩
    rintro e W2 ⟨rfl, rfl⟩
    simp only [World.size_alloc]
    gi_wp2_with fail
    have q0 := Boxed.new W1 23 (.slice none 0 0)
    have q1 := World.alloc_heap_new (W1.alloc (.cells #[.slice none 0 0] 23)) (.cells #[.bool true, .bool false] 4)
    refine wayLoop _ _ _ W1.heap.size (W1.heap.size + 1 + 1) (W1.heap.size + 1 + 1 + 1) W1.heap.size (.slice none 0 0) [] [(W1.heap.size + 1 + 1 + 1, .cells #[.bool true] 4 (0, 0)), (W1.heap.size + 1, .cells #[.bool true, .bool false] 4 (0, 0))] p true Ab As cb cs (right_counts hz).2.1 (by simp) _ _ _ _ _ _ _ _ _ _ _ _ _ _ _ _ _ _ _ _ _ _ _ _ _ _ _ _ (by simp; omega) (Nat.le_refl _) ?a0 ?a1 ?a2 ?a3 ?a4 ?a5 ?a6 ?a7 ?a8 ?a9
    case a0 => exact cell_of_heap ((heap_alloc_old (by simp)).trans (heap_alloc_at (by simp))) rfl
    case a1 => exact cell_of_heap ((heap_alloc_old (by simp)).trans (heap_alloc_at (by simp))) rfl
    case a2 => exact (hb.up hb0 hb0.size).up hb1 hb1.size |>.up (((((Below.refl _ _).alloc (Nat.le_refl _) _).alloc (by simp) _).alloc (by simp; omega) _).alloc (by simp; omega) _) (Nat.le_refl _)
    case a3 => exact ((q0.alloc _).alloc _).alloc _
    case a4 => exact Own.nil
    case a5 =>
      intro x hx
      simp at hx
      rcases hx with rfl | rfl
      · exact heap_alloc_at (by simp)
      · exact (heap_alloc_old (by simp)).trans ((heap_alloc_old (by simp)).trans (heap_alloc_at (by simp)))
    case a6 => simp
    case a7 =>
      intro x hx cs sp e
      simp at hx
      rcases hx with rfl | rfl <;> simp at e
    case a8 =>
      intro x hx
      simp at hx
      rcases hx with rfl | rfl
      · show W1.heap.size + 1 + 1 + 1 ≠ W1.heap.size; omega
      · show W1.heap.size + 1 ≠ W1.heap.size; omega
    case a9 =>
      intro D W hD hI hK
      obtain ⟨⟨⟨u, hu, hown, _⟩, hH⟩, hB⟩ := hI
      have hB1 : Below W1.heap.size W1 W := Below.trans (((((Below.refl _ _).alloc (Nat.le_refl _) _).alloc (by simp) _).alloc (by simp; omega) _).alloc (by simp; omega) _) hB
      have z1 : W.cell? ⟨w.heap.size, 0, none⟩ = some (.slice Ab p.bins.length cb) := (hB1.cell (p := ⟨w.heap.size, 0, none⟩) hlt1).trans ((hc1 w.heap.size 0 (by simp)).trans (by simp))
      have z2 : W.cell? ⟨w.heap.size, 1, none⟩ = some (.slice As p.sizes.length cs) := (hB1.cell (p := ⟨w.heap.size, 1, none⟩) hlt1).trans ((hc1 w.heap.size 1 (by simp)).trans (by simp))
      have g1 : W.cell? ⟨W1.heap.size + 1, 1, none⟩ = some (.bool false) := by
        have := hH (W1.heap.size + 1, .cells #[.bool true, .bool false] 4 (0, 0)) (by simp)
        simp only at this
        simp [World.cell?, this]
      simp at hD
      gi_wp2
      rw [roundsIn_succ]
      gi_wp2_with fail
      refine ⟨trivial, (bins_in Fence.wide 4 trivial rfl _ _ _ _).mono ?_⟩
      rintro e W2 ⟨rfl, rfl⟩
      gi_wp2_with fail
      have hWs : W1.heap.size ≤ W.heap.size := hB1.size
      have hDl := (Array.getElem?_eq_some_iff.1 hK).1
      have hul := hu.lt
      refine wayLoop _ _ _ W1.heap.size W.heap.size (W.heap.size + 1) W1.heap.size u (kinds p true) [(W.heap.size + 1, .cells #[.bool false] 4 (0, 0)), (D, .deferred (some []))] p false Ab As cb cs (right_counts hz).2.1 (Nat.le_trans (kindsTo_length p true p.bins.length) (right_counts hz).2.1) _ _ _ _ _ _ _ _ _ _ _ _ _ _ _ _ _ _ _ _ _ _ _ _ _ _ _ _ (by simp; omega) (Nat.le_refl _) ?b0 ?b1 ?b2 ?b3 ?b4 ?b5 ?b6 ?b7 ?b8 ?b9
      case b0 => exact cell_of_heap ((heap_alloc_old (by simp)).trans (heap_alloc_at rfl)) rfl
      case b1 => exact cell_of_heap ((heap_alloc_old (by simp)).trans (heap_alloc_at rfl)) rfl
      case b2 => exact ((hb.up hb0 hb0.size).up hb1 hb1.size |>.up hB1 (Nat.le_refl _)).up (((Below.refl _ _).alloc hWs _).alloc (by simp; omega) _) (Nat.le_refl _)
      case b3 => exact (hu.alloc _).alloc _
      case b4 => exact (by simpa using hown : Own cInt 1 3 W W1.heap.size u (nats (kinds p true))) |>.alloc _ |>.alloc _
      case b5 =>
        intro x hx
        simp at hx
        rcases hx with rfl | rfl
        · exact heap_alloc_at (by simp)
        · exact (heap_alloc_old (by simp; omega)).trans ((heap_alloc_old hDl).trans hK)
      case b6 => simp
      case b7 =>
        intro x hx cs sp e
        simp at hx
        rcases hx with rfl | rfl <;> simp at e
      case b8 =>
        intro x hx
        simp at hx
        rcases hx with rfl | rfl
        · show W.heap.size + 1 ≠ W1.heap.size; omega
        · show D ≠ W1.heap.size; omega
      case b9 =>
        intro D2 W3 hD2 hI2 hK2
        obtain ⟨⟨⟨u2, hu2, hown2, _⟩, hH2⟩, hB2⟩ := hI2
        have hKD := hH2 (D, .deferred (some [])) (by simp)
        have hc2 := hu2.cell
        simp at hD2
        gi_wp2
        rw [roundsIn_succ]
        gi_wp2
        have hne : D ≠ D2 := by omega
        have hKD' : (W3.putObj D2 (.deferred none)).heap[D]? = some (.deferred (some [])) := (World.putObj_heap_other hne).trans hKD
        have hB3 : Below W1.heap.size W1 W3 := hB1.trans ((((Below.refl _ _).alloc hWs _).alloc (by simp; omega) _).trans hB2)
        have hB4 : Below W1.heap.size W1 (W3.putObj D2 (.deferred none)) := hB3.trans (belowK_b (Nat.le_refl _) W3 D2 _ _ (by omega) hK2 rfl rfl)
        have hB5 : Below W1.heap.size W1 ((W3.putObj D2 (.deferred none)).putObj D (.deferred none)) := hB4.trans (belowK_b (Nat.le_refl _) _ D _ _ (by omega) hKD' rfl rfl)
        have hown5 : Own cInt 1 3 ((W3.putObj D2 (.deferred none)).putObj D (.deferred none)) W1.heap.size u2 (nats (way p)) := ownsRow_putObj (ownsRow_putObj hown2 _ hK2 rfl) _ hKD' rfl
        refine ⟨by simp, .inl ⟨_, _, rfl, run_takeDeferred hK2, ?_⟩⟩
        refine ⟨by simp, .inl ⟨_, _, rfl, run_takeDeferred hKD', ?_⟩⟩
        refine ⟨_, by simp [results, Try.results101, go_sem], u2, rfl, hown5.from_ hbw.size, hbw.trans (hB5.mono hbw.size)⟩
  · have hzb : (checkPlan p != 0) = true := by simpa using hz
    have hzf : (checkPlan p == 0) = false := by simpa using hz
    gi_wp2
    refine ⟨_, by simp [results, Try.results101, go_sem], _, rfl, Own.nil, hbw⟩
end Wh
