/- holds.Drop, holds.Add: walks -/
import Derived.Test.YteafeopekfhnnaaHoldsD
import Derived.Test.YteafeopekfhnnaaHoldsE
namespace Wh
open Go Go.RowKit Go.Shelf Go.Proofs
attribute [local go_sem] run_indexAt_letter

def DropPost (l : List Hold) (o ln b : Int) (w : World) (e : Ending) (w' : World) : Prop :=
  ∃ v, e = .returned (.tuple #[v, .int .i64 (drop l o ln b).2.1, .int .i64 (drop l o ln b).2.2]) ∧ Own cHold 4 58 w' w.heap.size v (drop l o ln b).1 ∧ Below w.heap.size w w'
def AddPost (l : List Hold) (h : Hold) (w : World) (e : Ending) (w' : World) : Prop :=
  ∃ v, e = .returned (.tuple #[v, .int .i64 (add l h).2]) ∧ Own cHold 4 58 w' w.heap.size v (add l h).1 ∧ Below w.heap.size w w'

theorem ok_length {l : List Hold} (h : holdsOk l = true) : l.length ≤ 72 := by
  have hr := (holdsOk_iff.1 h).2
  have hf := (holdsOk_iff.1 h).1
  have hp : ∀ x ∈ l, 0 ≤ place x ∧ place x < 72 := fun x hx => by
    have := (fine_iff.1 (hf x hx)).1
    unfold keyOk at this
    unfold place
    omega
  have hn : (l.map fun x => (place x).toNat).Nodup := by
    rw [List.Nodup, List.pairwise_map]
    refine List.Pairwise.imp_of_mem ?_ hr
    intro a b ha hb hab
    have h1 := hp a ha
    have h2 := hp b hb
    omega
  have hs : (l.map fun x => (place x).toNat) ⊆ List.range 72 := fun n hn' => by
    obtain ⟨x, hx, rfl⟩ := List.mem_map.1 hn'
    have := hp x hx
    exact List.mem_range.2 (by omega)
  have := hn.length_le_of_subset hs
  simpa using this
theorem drop_bad {l : List Hold} {o ln b : Int} (h : holdsOk l = false) : drop l o ln b = ([], 0, 1) := by unfold drop; rw [h]; rfl
theorem drop_none {l : List Hold} {o ln b : Int} (h : holdsOk l = true) (hf : found l ⟨o, ln, b, 0⟩ = false) : drop l o ln b = ([], 0, 4) := by
  unfold drop
  rw [h, if_neg (by simp), if_pos (notFound_kept h hf)]
theorem drop_yes {l : List Hold} {o ln b : Int} (h : holdsOk l = true) (hf : found l ⟨o, ln, b, 0⟩ = true) : drop l o ln b = (l.eraseIdx (pos l ⟨o, ln, b, 0⟩), (hold l (pos l ⟨o, ln, b, 0⟩)).n, 0) := by
  have hk := found_kept h hf
  have hn := ok_n h (found_iff.1 hf).1
  simp only at hk
  unfold drop
  rw [h, if_neg (by simp), hk, if_neg (by omega), with_less h (found_key h hf) rfl hf]

set_option maxHeartbeats 2000000 in
theorem hdDrop (w : World) (v : Value) (l : List Hold) (o ln b : Int) (hv : Sl cHold w w.heap.size v l) :
    Calls Try.prog 29 #[v, .int .i64 o, .int .i64 ln, .int .i64 b] w (DropPost l o ln b w) := by
  have hV := hv
  obtain ⟨A, c, rfl, hl, hA⟩ := hv
  go_enter Try.func29, Try.ntmps29
  go_wp2_with fail
  refine (hdCheck _ _ _ hV).mono ?_
  rintro e W1 ⟨rfl, hb1⟩
  cases hok : holdsOk l
  · have hfin := Lib.hid (drop_bad (o := o) (ln := ln) (b := b) hok)
    have hc : checkHolds l = 1 := by unfold checkHolds; rw [hok]; rfl
    rw [hc]
    clear hc hok
    go_wp2_with fail
    go_ret3
    exact ⟨_, by rw [hfin.out]; rfl, by rw [hfin.out]; exact Own.nil, hb1⟩
  · have hc : checkHolds l = 0 := check_ok.2 hok
    have hlen := ok_length hok
    rw [hc]
    clear hc
    have hok' := Lib.hid hok
    clear hok
    go_wp2_with fail
    refine (hdFind _ _ l ⟨o, ln, b, 0⟩ (hV.grow hb1) hok'.out (by omega)).mono ?_
    rintro e W2 ⟨rfl, hb2⟩
    have hb02 := hb1.trans (hb2.mono hb1.size)
    cases hf : found l ⟨o, ln, b, 0⟩
    · have hfin := Lib.hid (drop_none hok'.out hf)
      clear hf
      go_wp2_with fail
      go_ret3
      exact ⟨_, by rw [hfin.out]; rfl, by rw [hfin.out]; exact Own.nil, hb02⟩
    · have hfin := Lib.hid (drop_yes hok'.out hf)
      have hlt := (found_iff.1 hf).1
      clear hf
      generalize pos l ⟨o, ln, b, 0⟩ = k at hlt hfin ⊢
      obtain ⟨hAok, hAb, b0, b1, b2, b3⟩ := (hA.up hb02 hb02.size).hold hlt
      have hw1 : IntKind.i64.wrap ((k : Int) + 1) = (k : Int) + 1 := by rw [IntKind.wrap_i64]; omega
      have hki : (k : Int) < (l.length : Int) := by omega
      have hVd : Sl cHold W2.drew W2.drew.heap.size (.slice A l.length c) l := (hV.grow hb02).drew
      have hd2 : Below W2.heap.size W2 W2.drew := (Below.refl _ _).drew
      clear b0 b1 b2 hok' hb1 hb2 hA
      go_wp2_with fail
      go_region_held3 (fun w' => w'.cell? ⟨ablk A, aoff A + k * 4 + 3, none⟩ = some (.int .i64 (hold l k).n)) (first | exact z1 | go_keep)
        (first
        | (go_at_call 56; refine (cloneHold _ _ l hVd (by omega)).mono ?_; rintro e W9 ⟨u9, rfl, hu9, hb9⟩; have hd9 := hd2.trans (hb9.mono hd2.size); have z1 := (hd9.cell (p := ⟨_, _, none⟩) hAb).trans b3)
        | (go_at_call 55; refine (delHold _ _ u9 l k hu9 hlt (by omega)).mono ?_; rintro e W10 ⟨u10, rfl, ho10, hg10, hat10⟩; have hd10 := hd9.grown hg10 hd9.size (fun q hq => (hu9.size q hq).1); have z1 := (hd10.cell (p := ⟨_, _, none⟩) hAb).trans b3))
      go_wp2_with fail
      go_ret3
      exact ⟨_, by rw [hfin.out]; rfl, by rw [hfin.out]; exact ho10.from_ hb02.size, hb02.trans (hd10.mono hb02.size)⟩

theorem add_bad {l : List Hold} {h : Hold} (hb : holdsOk l = false ∨ holdFine h = false) : add l h = ([], 1) := by
  unfold add
  rcases hb with hb | hb
  · rw [hb]; rfl
  · cases holdsOk l
    · rfl
    · rw [hb]; rfl
theorem add_new {l : List Hold} {h : Hold} (h1 : holdsOk l = true) (h2 : holdFine h = true) (hf : found l h = false) : add l h = (l.take (pos l h) ++ h :: l.drop (pos l h), 0) := by
  have hk := notFound_kept h1 hf
  obtain ⟨k1, k2, k3⟩ := fine_iff.1 h2
  unfold add
  rw [h1, h2, if_neg (by simp), if_neg (by simp), hk, if_neg (by omega)]
  have e : ({ h with n := 0 + h.n } : Hold) = h := by cases h; simp
  rw [e, with_new h1 k1 (by omega) hf]
theorem add_full {l : List Hold} {h : Hold} (h1 : holdsOk l = true) (h2 : holdFine h = true) (hf : found l h = true) (hn : 200 < (hold l (pos l h)).n + h.n) : add l h = ([], 3) := by
  have hk := found_kept h1 hf
  unfold add
  rw [h1, h2, if_neg (by simp), if_neg (by simp), hk, if_pos hn]
theorem add_more {l : List Hold} {h : Hold} (h1 : holdsOk l = true) (h2 : holdFine h = true) (hf : found l h = true) (hn : (hold l (pos l h)).n + h.n ≤ 200) :
    add l h = (l.set (pos l h) { hold l (pos l h) with n := (hold l (pos l h)).n + h.n }, 0) := by
  have hk := found_kept h1 hf
  obtain ⟨f1, f2⟩ := found_iff.1 hf
  obtain ⟨e1, e2, e3⟩ := ord_zero.1 f2
  have hn1 := ok_n h1 f1
  have hn2 := (fine_iff.1 h2).2
  unfold add
  rw [h1, h2, if_neg (by simp), if_neg (by simp), hk, if_neg (by omega)]
  rw [with_more h1 (h := { h with n := (hold l (pos l h)).n + h.n }) (fine_iff.1 h2).1 (by simp only; omega) (by rw [found_n]; exact hf), pos_n]
  simp only [e1, e2, e3]

set_option maxHeartbeats 4000000 in
theorem hdAdd (w : World) (v : Value) (l : List Hold) (h : Hold) (hv : Sl cHold w w.heap.size v l) :
    Calls Try.prog 37 #[v, vHold h] w (AddPost l h w) := by
  have hV := hv
  obtain ⟨A, c, rfl, hl, hA⟩ := hv
  have hb0 : Below w.heap.size w (w.alloc (.cells #[.int .i64 (h).order, .int .i64 (h).line, .int .i64 (h).bin, .int .i64 (h).n] 58)) := (Below.refl _ _).alloc (Nat.le_refl _) _
  unfold vHold
  go_enter Try.func37, Try.ntmps37
  go_wp2_with fail
  refine (hdCheck _ _ _ (hV.grow hb0)).mono ?_
  rintro e W1 ⟨rfl, hb1⟩
  have hb01 := hb0.trans (hb1.mono hb0.size)
  have hsz := hb1.size
  obtain ⟨hc1, hf1⟩ := bcell hb1
  cases hok : holdsOk l
  · have hfin := Lib.hid (add_bad (h := h) (.inl hok))
    have hc : checkHolds l = 1 := by unfold checkHolds; rw [hok]; rfl
    rw [hc]
    clear hc hok
    go_wp2_with fail
    go_ret2
    exact ⟨_, by rw [hfin.out]; rfl, by rw [hfin.out]; exact Own.nil, hb01⟩
  · have hc : checkHolds l = 0 := check_ok.2 hok
    have hlen := ok_length hok
    rw [hc]
    clear hc
    have hok' := Lib.hid hok
    clear hok
    go_wp2_with fail
    refine (hdFine h _).mono ?_
    rintro e W2 ⟨rfl, hb2⟩
    have hb12 := hb1.trans (hb2.mono hb1.size)
    have hb02 := hb0.trans (hb12.mono hb0.size)
    obtain ⟨hc2, hf2⟩ := bcell hb12
    clear hc1 hf1
    cases hfi : holdFine h
    · have hfin := Lib.hid (add_bad (l := l) (.inr hfi))
      go_wp2_with fail
      go_ret2
      exact ⟨_, by rw [hfin.out]; rfl, by rw [hfin.out]; exact Own.nil, hb02⟩
    · have hfi' := Lib.hid hfi
      have hlt2 : w.heap.size < W2.heap.size := by have := hb12.size; simp at this; omega
      go_wp2_with fail
      clear hfi
      refine (hdFind _ _ l h (hV.grow hb02) hok'.out (by omega)).mono ?_
      rintro e W3 ⟨rfl, hb3⟩
      have hb13 := hb12.trans (hb3.mono hb12.size)
      have hb03 := hb0.trans (hb13.mono hb0.size)
      obtain ⟨hc3, hf3⟩ := bcell hb13
      have hlt3 : w.heap.size < W3.heap.size := by have := hb3.size; omega
      obtain ⟨y0, y1, y2, y3⟩ : W3.cell? ⟨w.heap.size, 0, none⟩ = some (.int .i64 h.order) ∧ W3.cell? ⟨w.heap.size, 1, none⟩ = some (.int .i64 h.line) ∧ W3.cell? ⟨w.heap.size, 2, none⟩ = some (.int .i64 h.bin) ∧ W3.cell? ⟨w.heap.size, 3, none⟩ = some (.int .i64 h.n) :=
        ⟨(hc3 _ _ (by simp)).trans (by simp), (hc3 _ _ (by simp)).trans (by simp), (hc3 _ _ (by simp)).trans (by simp), (hc3 _ _ (by simp)).trans (by simp)⟩
      clear hc2 hf2 hc3 hf3 hb1 hb2 hb12 hsz
      have hposl := (pos_spec l h).1
      cases hf : found l h
      · have hfin := Lib.hid (add_new hok'.out hfi'.out hf)
        clear hf
        generalize pos l h = k at hfin hposl ⊢
        have hVd : Sl cHold W3.drew W3.drew.heap.size (.slice A l.length c) l := (hV.grow hb03).drew
        have hd3 : Below W3.heap.size W3 W3.drew := (Below.refl _ _).drew
        have he3 : Below W3.heap.size W3 (W3.drew.alloc (.cells #[.int .i64 (h).order, .int .i64 (h).line, .int .i64 (h).bin, .int .i64 (h).n] 58)) := hd3.alloc (Nat.le_refl _) _
        have hVe := (hV.grow hb03).grow he3
        have hEb : Blk (W3.drew.alloc (.cells #[.int .i64 (h).order, .int .i64 (h).line, .int .i64 (h).bin, .int .i64 (h).n] 58)) W3.heap.size 58 (cHold h) := Blk.new W3.drew 58 #[.int .i64 (h).order, .int .i64 (h).line, .int .i64 (h).bin, .int .i64 (h).n]
        go_wp2_with fail
        go_region_held3 (fun w' => w'.cell? ⟨w.heap.size, 0, none⟩ = some (.int .i64 h.order) ∧ w'.cell? ⟨w.heap.size, 1, none⟩ = some (.int .i64 h.line) ∧ w'.cell? ⟨w.heap.size, 2, none⟩ = some (.int .i64 h.bin) ∧ w'.cell? ⟨w.heap.size, 3, none⟩ = some (.int .i64 h.n)) (first | exact ⟨z1, z2, z3, z4⟩ | go_keep)
          (first
          | (go_at_call 56; refine (cloneHold _ _ l hVd (by omega)).mono ?_; rintro e W9 ⟨u9, rfl, hu9, hb9⟩; have hd9 := hd3.trans (hb9.mono hd3.size); have z1 := (hd9.cell (p := ⟨w.heap.size, 0, none⟩) hlt3).trans y0; have z2 := (hd9.cell (p := ⟨w.heap.size, 1, none⟩) hlt3).trans y1; have z3 := (hd9.cell (p := ⟨w.heap.size, 2, none⟩) hlt3).trans y2; have z4 := (hd9.cell (p := ⟨w.heap.size, 3, none⟩) hlt3).trans y3)
          | (go_at_call 56; refine (cloneHold _ _ l hVe (by omega)).mono ?_; rintro e W19 ⟨u19, rfl, hu19, hb19⟩; have hd19 := he3.trans (hb19.mono he3.size); have i13 := hEb.below hb19 (by simp); have z1 := (hd19.cell (p := ⟨w.heap.size, 0, none⟩) hlt3).trans y0; have z2 := (hd19.cell (p := ⟨w.heap.size, 1, none⟩) hlt3).trans y1; have z3 := (hd19.cell (p := ⟨w.heap.size, 2, none⟩) hlt3).trans y2; have z4 := (hd19.cell (p := ⟨w.heap.size, 3, none⟩) hlt3).trans y3)
          | (go_at_call 63; have i1 := hu9.alloc (.cells #[.int .i64 (h).order, .int .i64 (h).line, .int .i64 (h).bin, .int .i64 (h).n] 58); have i2 : W3.drew.heap.size ≤ (W9.alloc (.cells #[.int .i64 (h).order, .int .i64 (h).line, .int .i64 (h).bin, .int .i64 (h).n] 58)).heap.size := (by have := hd9.size; simp; omega); have i3 : Blk (W9.alloc (.cells #[.int .i64 (h).order, .int .i64 (h).line, .int .i64 (h).bin, .int .i64 (h).n] 58)) W9.heap.size 58 (cHold h) := Blk.new W9 58 #[.int .i64 (h).order, .int .i64 (h).line, .int .i64 (h).bin, .int .i64 (h).n]; have i4 : u9.ownBlock ≠ some W9.heap.size := (fun hq => (Nat.lt_irrefl _ (hu9.size _ hq).2)); refine (insHold _ _ u9 l h k W9.heap.size i1 hposl (by omega) i2 i3 i4).mono ?_; rintro e W10 ⟨u10, rfl, ho10, hb10⟩; have hd10 := (hd9.alloc hd9.size (.cells #[.int .i64 (h).order, .int .i64 (h).line, .int .i64 (h).bin, .int .i64 (h).n] 58)).trans hb10; have z1 := (hd10.cell (p := ⟨w.heap.size, 0, none⟩) hlt3).trans y0; have z2 := (hd10.cell (p := ⟨w.heap.size, 1, none⟩) hlt3).trans y1; have z3 := (hd10.cell (p := ⟨w.heap.size, 2, none⟩) hlt3).trans y2; have z4 := (hd10.cell (p := ⟨w.heap.size, 3, none⟩) hlt3).trans y3)
          | (go_at_call 63; have i14 : u19.ownBlock ≠ some W3.heap.size := (fun hq => (by have := (hu19.size _ hq).1; simp at this; omega)); refine (insHold _ _ u19 l h k W3.heap.size hu19 hposl (by omega) hb19.size i13 i14).mono ?_; rintro e W10 ⟨u10, rfl, ho10, hb10⟩; have hd10 := hd19.trans (hb10.mono he3.size); have z1 := (hd10.cell (p := ⟨w.heap.size, 0, none⟩) hlt3).trans y0; have z2 := (hd10.cell (p := ⟨w.heap.size, 1, none⟩) hlt3).trans y1; have z3 := (hd10.cell (p := ⟨w.heap.size, 2, none⟩) hlt3).trans y2; have z4 := (hd10.cell (p := ⟨w.heap.size, 3, none⟩) hlt3).trans y3))
        · go_wp2_with fail
          go_ret2
          exact ⟨_, by rw [hfin.out]; rfl, by rw [hfin.out]; exact ho10.from_ hb03.size, hb03.trans (hd10.mono hb03.size)⟩
        · go_wp2_with fail
          go_ret2
          exact ⟨_, by rw [hfin.out]; rfl, by rw [hfin.out]; exact ho10.from_ (Nat.le_trans hb03.size he3.size), hb03.trans (hd10.mono hb03.size)⟩
      · have hlt := (found_iff.1 hf).1
        obtain ⟨hAok, hAb, b0, b1, b2, b3⟩ := (hA.up hb03 hb03.size).hold hlt
        have hn1 := ok_n hok'.out hlt
        have hn2 := (fine_iff.1 hfi'.out).2
        have hw1 : IntKind.i64.wrap ((hold l (pos l h)).n + h.n) = (hold l (pos l h)).n + h.n := by rw [IntKind.wrap_i64]; omega
        by_cases hbig : 200 < (hold l (pos l h)).n + h.n
        · have hfin := Lib.hid (add_full hok'.out hfi'.out hf hbig)
          clear hf
          generalize pos l h = k at hlt hfin hw1 hbig hn1 b0 b1 b2 b3 ⊢
          have hki : (k : Int) < (l.length : Int) := by omega
          clear hn1 hn2
          go_wp2_with fail
          go_quiet (fail)
          clear hw1
          go_wp2_with fail
          go_ret2
          exact ⟨_, by rw [hfin.out]; rfl, by rw [hfin.out]; exact Own.nil, below_drewN hb03 _⟩
        · have hle : (hold l (pos l h)).n + h.n ≤ 200 := by omega
          have hfin := Lib.hid (add_more hok'.out hfi'.out hf hle)
          clear hf hbig
          generalize pos l h = k at hlt hfin hw1 hle hn1 b0 b1 b2 b3 ⊢
          have hki : (k : Int) < (l.length : Int) := by omega
          go_wp2_with fail
          go_quiet (fail)
          have hbq : Below W3.heap.size W3 (W3.drewN nq) := below_drewN (Below.refl _ _) nq
          go_wp2_with fail
          refine (cloneHold _ _ l ((hV.grow hb03).grow hbq) (by omega)).mono ?_
          rintro e W9 ⟨u9, rfl, hu9, hb9⟩
          obtain ⟨g, c9, rfl, hgb, hgl⟩ := hu9.some_ (by omega)
          have hd9 := hbq.trans (hb9.mono hbq.size)
          have x3 := (hd9.cell (p := ⟨w.heap.size, 3, none⟩) hlt3).trans y3
          have hc9 : W9.cell? ⟨g, k * 4 + 3, none⟩ = some (.int .i64 (hold l k).n) := by
            rw [World.ownsRow.cellAt hu9 (k * 4 + 3) (by omega), flat_get cHold 4 (fun _ => rfl) l k 3 (hold l k) (by rw [hold_get hlt]; simp) (by omega)]
            rfl
          have hf9 : W9.frozen? ⟨g, k * 4 + 3, none⟩ = false := World.ownsRow.frozenAt hu9 _
          obtain ⟨ho9, hg9⟩ := Own.store (y := { hold l k with n := (hold l k).n + h.n }) (u := .int .i64 ((hold l k).n + h.n)) hu9 (fun _ => rfl) hlt (show 3 < 4 by omega) (by rw [← hold_get hlt]; rfl)
          have hgne : g ≠ w.heap.size := by have := hlt3; have := hgb; simp at this; omega
          have ho9' := Lib.hid ho9
          have hg9' := Lib.hid hg9
          clear ho9 hg9
          go_wp2_with fail
          go_region
          go_wp2_with fail
          go_ret2
          exact ⟨_, by rw [hfin.out]; rfl, by rw [hfin.out]; exact (ho9'.out.from_ (Nat.le_trans hb03.size hbq.size)).drew, hb03.trans ((hd9.grown hg9'.out hd9.size (fun q hq => by cases hq; exact hgb)).drew.mono hb03.size)⟩
end Wh
