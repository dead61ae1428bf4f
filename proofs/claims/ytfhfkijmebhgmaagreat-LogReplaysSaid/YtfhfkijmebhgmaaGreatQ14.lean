/- Texts of the claim, joined: PlainI, Box, MemS, BoxK. -/
import Derived.Laws.Tables
import Derived.Test.YtfhfkijmebhgmaaGreatQ09
import Derived.Test.YtfhfkijmebhgmaaGreatQ13
import Derived.Test.YtfhfkijmebhgmaaGreatQ03
namespace Wh

theorem State.ext' {a b : State} (h1 : a.on = b.on) (h2 : a.orders = b.orders) (h3 : a.holds = b.holds) (h4 : a.moves = b.moves) (h5 : a.inn = b.inn) (h6 : a.out = b.out) (h7 : a.fixed = b.fixed) : a = b := by
  cases a; cases b; simp only at h1 h2 h3 h4 h5 h6 h7; subst h1 h2 h3 h4 h5 h6 h7; rfl

/-- t is what comes of holding d more for a line. -/
structure Held (p : Plan) (s t : State) (o k : Nat) (d : Int) : Prop where
  right : Right p t
  on : t.on = s.on
  moves : t.moves = s.moves
  inn : t.inn = s.inn
  out : t.out = s.out
  fixed : t.fixed = s.fixed
  orders : t.orders.length = s.orders.length
  kind : ∀ o', (t.order o').kind = (s.order o').kind
  lines : ∀ o', (t.order o').lines.length = (s.order o').lines.length
  line : ∀ o' k', (t.line o' k').good = (s.line o' k').good ∧ (t.line o' k').want = (s.line o' k').want ∧ (t.line o' k').got = (s.line o' k').got
  back : ∀ o' k', (t.line o' k').back = (s.line o' k').back - if o' = o ∧ k' = k then d else 0
  keptAt : ∀ o' k' b' : Int, ¬ (o' = (o : Int) ∧ k' = (k : Int)) → Wh.keptAt t.holds o' k' b' = Wh.keptAt s.holds o' k' b'
  kept : ∀ o' k' : Int, Wh.kept t.holds o' k' = Wh.kept s.holds o' k' + if o' = (o : Int) ∧ k' = (k : Int) then d else 0
  other : ∀ b g : Int, g ≠ (s.line o k).good → Wh.bound t b g = Wh.bound s b g
  more : ∀ b g : Int, Wh.bound s b g ≤ Wh.bound t b g
  least : ∀ o' k' b' : Int, Wh.keptAt s.holds o' k' b' ≤ Wh.keptAt t.holds o' k' b'

namespace Held
variable {p : Plan} {s t u : State} {o k : Nat} {d d' : Int}
theorem refl (h : Right p s) : Held p s s o k 0 := by
  refine ⟨h, rfl, rfl, rfl, rfl, rfl, rfl, fun _ => rfl, fun _ => rfl, fun _ _ => ⟨rfl, rfl, rfl⟩, fun _ _ => by split <;> omega, fun _ _ _ _ => rfl, fun _ _ => by split <;> omega, fun _ _ _ => rfl, fun _ _ => Int.le_refl _, fun _ _ _ => Int.le_refl _⟩
theorem trans (h : Held p s t o k d) (h' : Held p t u o k d') : Held p s u o k (d + d') := by
  refine ⟨h'.right, h'.on.trans h.on, h'.moves.trans h.moves, h'.inn.trans h.inn, h'.out.trans h.out, h'.fixed.trans h.fixed, h'.orders.trans h.orders, fun o' => (h'.kind o').trans (h.kind o'), fun o' => (h'.lines o').trans (h.lines o'), fun o' k' => ?_, fun o' k' => ?_, fun o' k' b' hn => (h'.keptAt o' k' b' hn).trans (h.keptAt o' k' b' hn), fun o' k' => ?_, fun b g hg => ?_, fun b g => Int.le_trans (h.more b g) (h'.more b g), fun _ _ _ => Int.le_trans (h.least _ _ _) (h'.least _ _ _)⟩
  · obtain ⟨a1, a2, a3⟩ := h.line o' k'
    obtain ⟨b1, b2, b3⟩ := h'.line o' k'
    exact ⟨b1.trans a1, b2.trans a2, b3.trans a3⟩
  · rw [h'.back, h.back]
    split <;> omega
  · rw [h'.kept, h.kept]
    split <;> omega
  · rw [h'.other b g (by rw [(h.line o k).1]; exact hg), h.other b g hg]
theorem one {b : Nat} {m : Int} (h : Right p s) (f : Fits p s o k b m) : Held p s (hold1 s o k b m) o k m := by
  have hm := f.m1
  refine ⟨hold1_right h f, rfl, rfl, rfl, rfl, rfl, hold1_orders, fun o' => hold1_kind f o', fun o' => hold1_lines f o', fun o' k' => hold1_fixedLine f o' k', fun o' k' => ?_, fun o' k' b' hn => ?_, fun o' k' => ?_, fun b' g hg => ?_, fun b' g => ?_, fun o' k' b' => ?_⟩
  · rw [hold1_line f]
    split
    · rename_i hq
      obtain ⟨rfl, rfl⟩ := hq
      rfl
    · omega
  · rw [hold1_keptAt h f, if_neg (by omega), Int.add_zero]
  · rw [hold1_kept h f]
    congr 1
    split <;> split <;> omega
  · rw [hold1_bound h f, if_neg (fun hq => hg hq.2.symm), Int.add_zero]
  · rw [hold1_bound h f]
    split <;> omega
  · rw [hold1_keptAt h f]
    split <;> omega
theorem cast (h : Held p s t o k d) (e : d = d') : Held p s t o k d' := e ▸ h
theorem avail_le (h : Held p s t o k d) (b g : Int) : avail t b g ≤ avail s b g := by
  have := h.more b g
  unfold avail
  rw [h.on]
  omega
/-- All was got just if it was before. -/
theorem allGot (h : Held p s t o k d) {o' : Nat} : Wh.allGot (t.order o') = Wh.allGot (s.order o') := by
  rw [Bool.eq_iff_iff, allGot_iff, allGot_iff, h.lines]
  constructor
  · intro hh k' hk'
    have := hh k' hk'
    have e := h.line o' k'
    unfold State.line at e
    rw [e.2.1, e.2.2] at this
    exact this
  · intro hh k' hk'
    have := hh k' hk'
    have e := h.line o' k'
    unfold State.line at e
    rw [e.2.1, e.2.2]
    exact this
theorem check (h : Held p s t o k d) (hs : checkState p s = 0) : checkState p t = 0 := by
  refine check_iff.2 ⟨h.right, fun o' ho' => ?_⟩
  rw [h.kind, h.allGot]
  exact (check_iff.1 hs).2 o' (by rw [← h.orders]; exact ho')
end Held

section
variable {p : Plan} {o k : Nat} {but : Int}
/-- What a line needs so that something may be held for it. -/
structure May (s : State) (o k : Nat) (n : Int) : Prop where
  ho : o < s.orders.length
  hk : k < (s.order o).lines.length
  kind : (s.order o).kind = 1
  n0 : 0 ≤ n
  back : n ≤ (s.line o k).back
theorem May.held {s t : State} {n d : Int} (h : May s o k n) (hh : Held p s t o k d) (hd : d ≤ n) : May t o k (n - d) := by
  refine ⟨by rw [hh.orders]; exact h.ho, by rw [hh.lines]; exact h.hk, by rw [hh.kind]; exact h.kind, by omega, ?_⟩
  rw [hh.back, if_pos ⟨rfl, rfl⟩]
  have := h.back
  omega
theorem May.fits {s : State} {n : Int} (h : May s o k n) {b : Nat} {m : Int} (hb : b < p.bins.length) (h1 : 1 ≤ m) (hn : m ≤ n) (ha : m ≤ avail s b (s.line o k).good) : Fits p s o k b m :=
  ⟨h.ho, h.hk, hb, h.kind, h1, ha, by have := h.back; omega⟩
theorem May.good {s : State} {n : Int} (h : May s o k n) (hs : Right p s) : ((s.line o k).good.toNat : Int) = (s.line o k).good ∧ (s.line o k).good.toNat < p.sizes.length := by
  have := (hs.sane.line h.ho h.hk).1
  omega
theorem May.avail {s : State} {n : Int} (h : May s o k n) (hs : Right p s) {b : Nat} (hb : b < p.bins.length) : 0 ≤ avail s b (s.line o k).good := by
  obtain ⟨e, hg⟩ := h.good hs
  have := (hs.avail_range hb hg).1
  rwa [e] at this

theorem takeGo_skip {b : Nat} {r : List Nat} {s : State} {n : Int} (h : (b : Int) = but ∨ min n (avail s b (s.line o k).good) < 1) : takeGo o k but (b :: r) s n = takeGo o k but r s n := by
  rw [takeGo]; exact if_pos h
theorem takeGo_one {b : Nat} {r : List Nat} {s : State} {n : Int} (h : ¬ (b : Int) = but) (h1 : 1 ≤ min n (avail s b (s.line o k).good)) :
    takeGo o k but (b :: r) s n = takeGo o k but r (hold1 s o k b (min n (avail s b (s.line o k).good))) (n - min n (avail s b (s.line o k).good)) := by
  rw [takeGo]; exact if_neg (by omega)
theorem takeGo_zero : ∀ {bs : List Nat} {s : State} {n : Int}, n < 1 → takeGo o k but bs s n = (s, n)
  | [], _, _, _ => rfl
  | b :: r, s, n, h => by rw [takeGo_skip (.inr (by omega)), takeGo_zero h]
theorem takeGo_held : ∀ {bs : List Nat} {s : State} {n : Int}, Right p s → (∀ b ∈ bs, b < p.bins.length) → May s o k n →
    Held p s (takeGo o k but bs s n).1 o k (n - (takeGo o k but bs s n).2) ∧ 0 ≤ (takeGo o k but bs s n).2 ∧ (takeGo o k but bs s n).2 ≤ n
  | [], s, n, h, _, hm => by
    have := hm.n0
    exact ⟨(Held.refl h).cast (by show (0 : Int) = n - n; omega), this, Int.le_refl _⟩
  | b :: r, s, n, h, hb, hm => by
    by_cases hq : (b : Int) = but ∨ min n (avail s b (s.line o k).good) < 1
    · rw [takeGo_skip hq]
      exact takeGo_held h (fun x hx => hb x (List.mem_cons_of_mem _ hx)) hm
    · rw [takeGo_one (by omega) (by omega)]
      have f := hm.fits (p := p) (b := b) (m := min n (avail s b (s.line o k).good)) (hb b (List.mem_cons_self ..)) (by omega) (by omega) (by omega)
      have h1 := Held.one h f
      obtain ⟨h2, h3, h4⟩ := takeGo_held h1.right (fun x hx => hb x (List.mem_cons_of_mem _ hx)) (hm.held h1 (by omega))
      exact ⟨(h1.trans h2).cast (by omega), h3, by omega⟩
theorem takeGo_other : ∀ {bs : List Nat} {s : State} {n : Int}, Right p s → (∀ b ∈ bs, b < p.bins.length) → May s o k n → ∀ (b : Nat), (b ∉ bs ∨ (b : Int) = but) → ∀ g : Int,
    bound (takeGo o k but bs s n).1 b g = bound s b g
  | [], s, n, h, _, hm => fun _ _ _ => rfl
  | c :: r, s, n, h, hb, hm => fun b hnot g => by
    have hnot' : b ∉ r ∨ (b : Int) = but := hnot.imp (fun h1 h2 => h1 (List.mem_cons_of_mem _ h2)) id
    by_cases hq : (c : Int) = but ∨ min n (avail s c (s.line o k).good) < 1
    · rw [takeGo_skip hq]
      exact takeGo_other h (fun x hx => hb x (List.mem_cons_of_mem _ hx)) hm b hnot' g
    · rw [takeGo_one (by omega) (by omega)]
      have f := hm.fits (p := p) (b := c) (m := min n (avail s c (s.line o k).good)) (hb c (List.mem_cons_self ..)) (by omega) (by omega) (by omega)
      have h1 := Held.one h f
      rw [takeGo_other h1.right (fun x hx => hb x (List.mem_cons_of_mem _ hx)) (hm.held h1 (by omega)) b hnot' g, hold1_bound h f, if_neg, Int.add_zero]
      rintro ⟨e, _⟩
      have : c = b := by omega
      subst this
      rcases hnot with h2 | h2
      · exact h2 (List.mem_cons_self ..)
      · omega
/-- If some could not be held, nothing is left. -/
theorem takeGo_left : ∀ {bs : List Nat} {s : State} {n : Int}, bs.Nodup → Right p s → (∀ b ∈ bs, b < p.bins.length) → May s o k n → 0 < (takeGo o k but bs s n).2 → ∀ b ∈ bs, (b : Int) ≠ but → avail (takeGo o k but bs s n).1 b (s.line o k).good = 0
  | [], s, n, _, h, _, hm => fun _ b hb => by simp at hb
  | c :: r, s, n, hnd, h, hb, hm => fun hpos b hbm hne => by
    have hnd' := List.nodup_cons.1 hnd
    have hav := hm.avail h (hb c (List.mem_cons_self ..))
    by_cases hq : (c : Int) = but ∨ min n (avail s c (s.line o k).good) < 1
    · rw [takeGo_skip hq] at hpos ⊢
      have hle := (takeGo_held (but := but) h (fun x hx => hb x (List.mem_cons_of_mem _ hx)) hm).2.2
      rcases List.mem_cons.1 hbm with rfl | hbm
      · have hoth := takeGo_other (but := but) h (fun x hx => hb x (List.mem_cons_of_mem _ hx)) hm b (.inl hnd'.1) (s.line o k).good
        have hon := (takeGo_held (but := but) h (fun x hx => hb x (List.mem_cons_of_mem _ hx)) hm).1.on
        unfold avail at hq hav ⊢
        rw [hoth, hon]
        omega
      · exact takeGo_left hnd'.2 h (fun x hx => hb x (List.mem_cons_of_mem _ hx)) hm hpos b hbm hne
    · rw [takeGo_one (by omega) (by omega)] at hpos ⊢
      have f := hm.fits (p := p) (b := c) (m := min n (avail s c (s.line o k).good)) (hb c (List.mem_cons_self ..)) (by omega) (by omega) (by omega)
      have h1 := Held.one h f
      have hm1 := hm.held h1 (by omega)
      have hle := (takeGo_held (but := but) h1.right (fun x hx => hb x (List.mem_cons_of_mem _ hx)) hm1).2.2
      rcases List.mem_cons.1 hbm with rfl | hbm
      · have hoth := takeGo_other (but := but) h1.right (fun x hx => hb x (List.mem_cons_of_mem _ hx)) hm1 b (.inl hnd'.1) (s.line o k).good
        have hon := (takeGo_held (but := but) h1.right (fun x hx => hb x (List.mem_cons_of_mem _ hx)) hm1).1.on
        have ha1 := hold1_avail h f b (s.line o k).good
        rw [if_pos ⟨rfl, rfl⟩] at ha1
        have e : avail (takeGo o k but r (hold1 s o k b (min n (avail s b (s.line o k).good))) (n - min n (avail s b (s.line o k).good))).1 b (s.line o k).good = avail (hold1 s o k b (min n (avail s b (s.line o k).good))) b (s.line o k).good := by
          unfold avail at hoth hon ⊢
          rw [hoth, hon]
        rw [e, ha1]
        omega
      · have := takeGo_left hnd'.2 h1.right (fun x hx => hb x (List.mem_cons_of_mem _ hx)) hm1 hpos b hbm hne
        rwa [(h1.line o k).1] at this

end

theorem way_nodup (p : Plan) : (way p).Nodup := (way_pairwise p).imp fun h => h.1
theorem way_bins (p : Plan) : ∀ b ∈ way p, b < p.bins.length := fun _ h => mem_way.1 h
theorem takeS_held {p : Plan} {s : State} {o k : Nat} {n but : Int} (h : Right p s) (hm : May s o k n) :
    Held p s (takeS p s o k n but).1 o k (n - (takeS p s o k n but).2) ∧ 0 ≤ (takeS p s o k n but).2 ∧ (takeS p s o k n but).2 ≤ n := takeGo_held h (way_bins p) hm
theorem takeS_left {p : Plan} {s : State} {o k : Nat} {n but : Int} (h : Right p s) (hm : May s o k n) (hl : 0 < (takeS p s o k n but).2) {b : Nat} (hb : b < p.bins.length) (hne : (b : Int) ≠ but) : avail (takeS p s o k n but).1 b (s.line o k).good = 0 :=
  takeGo_left (way_nodup p) h (way_bins p) hm hl b (mem_way.2 hb) hne
theorem takeS_but {p : Plan} {s : State} {o k b : Nat} {n : Int} (h : Right p s) (hm : May s o k n) (g : Int) : bound (takeS p s o k n b).1 b g = bound s b g := takeGo_other h (way_bins p) hm b (.inr rfl) g
end Wh
namespace Wh
open Go Go.RowKit Go.Shelf Go.Proofs

/-- What a step leaves: every old block but those of 'ks'. -/
structure Step (ks : Nat → Prop) (w w' : World) : Prop where
  os : w'.os = w.os
  tape : w'.tape = w.tape
  output : w'.output = w.output
  size : w.heap.size ≤ w'.heap.size
  block : ∀ k, k < w.heap.size → ¬ ks k → w'.heap[k]? = w.heap[k]?
namespace Step
variable {ks ks' : Nat → Prop} {a b c w w' : World}
theorem refl (ks : Nat → Prop) (w : World) : Step ks w w := ⟨rfl, rfl, rfl, Nat.le_refl _, fun _ _ _ => rfl⟩
theorem trans' (h : Step ks a b) (h' : Step ks' b c) (hk : ∀ k, k < a.heap.size → ks' k → ks k) : Step ks a c :=
  ⟨h'.os.trans h.os, h'.tape.trans h.tape, h'.output.trans h.output, Nat.le_trans h.size h'.size, fun k hl hn => (h'.block k (Nat.lt_of_lt_of_le hl h.size) (fun hh => hn (hk k hl hh))).trans (h.block k hl hn)⟩
theorem trans (h : Step ks a b) (h' : Step ks b c) : Step ks a c := h.trans' h' fun _ _ h => h
theorem mono (h : Step ks w w') (hk : ∀ k, ks k → ks' k) : Step ks' w w' := ⟨h.os, h.tape, h.output, h.size, fun k hl hn => h.block k hl fun hh => hn (hk k hh)⟩
theorem of_below (h : Below w.heap.size w w') : Step ks w w' := ⟨h.os, h.tape, h.output, h.size, fun k hl _ => h.block k hl⟩
theorem of_grown {row : Option Nat} (h : w.grownBy w' row) (hk : ∀ k, row = some k → ks k) : Step ks w w' :=
  ⟨h.os, h.tape, h.output, h.size, fun k hl hn => h.block k hl (fun he => hn (hk k he.symm))⟩
theorem below {B : Nat} (h : Step ks w w') (hk : ∀ k, ks k → B ≤ k) (hB : B ≤ w.heap.size) : Below B w w' :=
  ⟨h.os, h.tape, h.output, h.size, fun k hl => h.block k (Nat.lt_of_lt_of_le hl hB) fun hh => Nat.not_le_of_lt hl (hk k hh)⟩
theorem blk {g : Nat} {e : TypeId} {cur : List Value} (h : Step ks w w') (hb : Blk w g e cur) (hn : ¬ ks g) : Blk w' g e cur := (h.block g hb.lt hn).trans hb
theorem heap {g : Nat} {o : Obj} (h : Step ks w w') (hb : w.heap[g]? = some o) (hn : ¬ ks g) : w'.heap[g]? = some o := (h.block g (Array.getElem?_eq_some_iff.1 hb).1 hn).trans hb
end Step
theorem Own.step {α : Type} {enc : α → List Value} {size : Nat} {e : TypeId} {w w' : World} {base : Nat} {v : Value} {l : List α} {ks : Nat → Prop} (h : Own enc size e w base v l) (hs : Step ks w w') (hk : ∀ k, v.ownBlock = some k → ¬ ks k) : Own enc size e w' base v l := by
  refine ⟨h.1, ?_⟩
  rcases h.2 with hn | ⟨g, cap, cur, rfl, hbg, hg, rest⟩
  · exact .inl hn
  · exact .inr ⟨g, cap, cur, rfl, hbg, by rw [hs.block g (Array.getElem?_eq_some_iff.1 hg).1 (hk g rfl)]; exact hg, rest⟩

/-- No element's type of a state. -/
structure BoxT (t : TypeId) : Prop where
  h1 : 23 ≠ t
  h2 : 3 ≠ t
  h3 : 42 ≠ t
  h4 : 44 ≠ t
  h5 : 46 ≠ t
  h6 : 48 ≠ t
theorem boxT : BoxT 31 := ⟨by decide, by decide, by decide, by decide, by decide, by decide⟩

/-- A state of the call's own that leads the block b, whose type is t; 'rest': the block's other cells. -/
structure Bx (w : World) (base b : Nat) (t : TypeId) (rest : List Value) (V : SV) (s : State) : Prop where
  box : Blk w b t (V.cells ++ rest)
  own : OwnSt w base V s
  ty : BoxT t
namespace Bx
variable {w w' : World} {base b : Nat} {t : TypeId} {rest : List Value} {V : SV} {s : State} {ks : Nat → Prop}
theorem of (h : BoxAt w b V) (ho : OwnSt w base V s) : Bx w base b 31 [] V s := ⟨by rw [List.append_nil]; exact h, ho, boxT⟩
theorem boxAt (h : Bx w base b 31 [] V s) : BoxAt w b V := by have := h.box; rwa [List.append_nil] at this
theorem lt (h : Bx w base b t rest V s) : b < w.heap.size := h.box.lt
theorem below (h : Bx w base b t rest V s) (hb : Below w.heap.size w w') : Bx w' base b t rest V s := ⟨h.box.below hb h.lt, h.own.below hb, h.ty⟩
theorem drew (h : Bx w base b t rest V s) : Bx w.drew base b t rest V s := ⟨h.box, h.own.drew, h.ty⟩
theorem from_ (h : Bx w base b t rest V s) {base' : Nat} (hb : base' ≤ base) : Bx w base' b t rest V s := ⟨h.box, h.own.from_ hb, h.ty⟩
theorem cells (h : Bx w base b t rest V s) : w.cell? ⟨b, 0, none⟩ = some V.on ∧ w.cell? ⟨b, 1, none⟩ = some V.orders ∧ w.cell? ⟨b, 2, none⟩ = some V.holds ∧ w.cell? ⟨b, 3, none⟩ = some V.moves ∧
    w.cell? ⟨b, 4, none⟩ = some V.inn ∧ w.cell? ⟨b, 5, none⟩ = some V.out ∧ w.cell? ⟨b, 6, none⟩ = some V.fixed :=
  ⟨h.box.cell rfl, h.box.cell rfl, h.box.cell rfl, h.box.cell rfl, h.box.cell rfl, h.box.cell rfl, h.box.cell rfl⟩
theorem frozen (h : Bx w base b t rest V s) (o : Nat) : w.frozen? ⟨b, o, none⟩ = false := h.box.frozen o
theorem setCells (h : Bx w base b t rest V s) (j : Nat) (u : Value) (V' : SV) (hV : V'.cells ++ rest = (V.cells ++ rest).set j u) :
    Blk (w.setCell ⟨b, j, none⟩ u) b t (V'.cells ++ rest) ∧ w.grownBy (w.setCell ⟨b, j, none⟩ u) (some b) ∧ OwnSt (w.setCell ⟨b, j, none⟩ u) base V s := by
  obtain ⟨h1, h2⟩ := set_row h.box j u
  exact ⟨by rw [hV]; exact h1, h2, h.own.keptBy h2 h.box h.ty.h1 h.ty.h2 h.ty.h3 h.ty.h4 h.ty.h5 h.ty.h6⟩
/-- A cell of the block is written, and the state is the other one then. -/
theorem set' {V' : SV} {s' : State} (hb : Blk w b t (V.cells ++ rest)) (ho : OwnSt w base V' s') (hT : BoxT t) (j : Nat) (u : Value) (hV : V'.cells ++ rest = (V.cells ++ rest).set j u) :
    Bx (w.setCell ⟨b, j, none⟩ u) base b t rest V' s' ∧ w.grownBy (w.setCell ⟨b, j, none⟩ u) (some b) := by
  obtain ⟨h1, h2⟩ := set_row hb j u
  exact ⟨⟨by rw [hV]; exact h1, ho.keptBy h2 hb hT.h1 hT.h2 hT.h3 hT.h4 hT.h5 hT.h6, hT⟩, h2⟩
/-- An order more: what append gave is stored. -/
theorem pushOrder {w1 w2 : World} (h : Bx w base b t rest V s) (hb : Below w.heap.size w w1) {u : Value} {x : Order} (hu : Own cLine 4 44 w1 base u x.lines) (hf : ∀ g, u.ownBlock = some g → w.heap.size ≤ g) (hg : w1.grownBy w2 V.orders.ownBlock)
    {v' : Value} (hv : Own cOrd 2 42 w2 base v' (ords s.orders V.lines ++ [(x.kind, u)])) :
    Blk w2 b t (V.cells ++ rest) ∧ OwnSt w2 base { V with orders := v', lines := V.lines ++ [u] } { s with orders := s.orders ++ [x] } := by
  have h1 := h.below hb
  exact ⟨h1.box.grown hg (fun he => by
    rcases h1.own.orders.notBox h1.box h1.ty.h3 with h | h
    · rw [h] at he; cases he
    · exact h he.symm), h.own.pushOrder hb hu hf hg hv⟩
/-- Another slice of holds. -/
theorem setHolds (h : Bx w base b t rest V s) {u : Value} {l : List Hold} (hu : Own cHold 4 46 w base u l) :
    Bx (w.setCell ⟨b, 2, none⟩ u) base b t rest { V with holds := u } { s with holds := l } ∧ w.grownBy (w.setCell ⟨b, 2, none⟩ u) (some b) := by
  obtain ⟨h1, h2, h3⟩ := h.setCells 2 u { V with holds := u } rfl
  exact ⟨⟨h1, ⟨h3.on, h3.rlen, h3.row, h3.orders, h3.llen, h3.line, hu.kept h2 (hu.notBox h.box h.ty.h5), h3.moves, h3.inn, h3.out, h3.fixed, h3.apart, h3.apartl⟩, h.ty⟩, h2⟩
/-- A store that leaves the box. -/
theorem off (h : Bx w base b t rest V s) {g : Nat} {e : TypeId} {cur : List Value} (hb : Blk w g e cur) (hne : e ≠ t) (hg : w.grownBy w' (some g)) : Blk w' b t (V.cells ++ rest) :=
  h.box.grown hg (by intro he; injection he with he; exact hb.ne h.box hne he.symm)
end Bx

theorem line_gl {w : World} {base : Nat} {V : SV} {s : State} (h : OwnSt w base V s) {o k : Nat} (ho : o < s.orders.length) (hk : k < (s.order o).lines.length) {gl n c : Nat} (hv : V.line o = .slice (some ⟨gl, 0, none⟩) n c) : ∃ cur, Blk w gl 44 cur := by
  obtain ⟨g, c', cur, e1, _, e3, _⟩ := h.lineAt ho hk
  rw [hv] at e1
  injection e1 with e1
  injection e1 with e1
  injection e1 with e1
  subst e1
  exact ⟨cur, e3⟩

section
variable {ops : Array Oper} {rest : List Oper} {o : Oper} {a : Act} {w : World} {Q : Exit → Act → World → Prop} {base b : Nat} {t : TypeId} {cs : List Value} {V : SV} {s : State}
theorem wp_st_holds (hgd : o.guard = none) (x y : Operand) (ho : o.op = .store 28 x y) (hn : o.dst = none) (A : Option Addr) (n c : Nat) (l : List Hold) (hB : Bx w base b t cs V s) (hx : a.eval x = .pointer (some ⟨b, 2, none⟩)) (hy : a.eval y = .slice A n c)
    (hu : Own cHold 4 46 w base (.slice A n c) l) (h : ∀ w', Bx w' base b t cs { V with holds := .slice A n c } { s with holds := l } → Step (· = b) w w' → wpList Tryz.prog ops Q rest a w') : wpList Tryz.prog ops Q (o :: rest) a w :=
  wpList_plain hgd fun K hK => by
    obtain ⟨h1, h2⟩ := hB.setHolds hu
    have h3 := h _ h1 (.of_grown h2 fun k hk => by injection hk with hk; exact hk.symm)
    have hc := hB.cells.2.2.1
    have hf := hB.frozen 2
    clear h hB hu h1 h2
    unfold Oper.wp
    simp only [execOp, ho, hx, hy]
    go_simp
    exact hK _ _ h3
theorem four_cells {w : World} {gl o j : Nat} {a b c d : Value} (hj : j < 4) (h0 : w.cell? ⟨gl, o, none⟩ = some a) (h1 : w.cell? ⟨gl, o + 1, none⟩ = some b) (h2 : w.cell? ⟨gl, o + 2, none⟩ = some c) (h3 : w.cell? ⟨gl, o + 3, none⟩ = some d) : ∃ u, w.cell? ⟨gl, o + j, none⟩ = some u := by
  rcases (show j = 0 ∨ j = 1 ∨ j = 2 ∨ j = 3 by omega) with rfl | rfl | rfl | rfl
  · exact ⟨_, h0⟩
  · exact ⟨_, h1⟩
  · exact ⟨_, h2⟩
  · exact ⟨_, h3⟩
/-- A slice stored into the box; the state is the other one then. -/
theorem wp_st_orders' (hgd : o.guard = none) (x y : Operand) (ho : o.op = .store 27 x y) (hn : o.dst = none) (A : Option Addr) (n c : Nat) {V' : SV} {s' : State} (hk : Blk w b t (V.cells ++ cs)) (hO : OwnSt w base V' s') (hT : BoxT t) (hV : V'.cells ++ cs = (V.cells ++ cs).set 1 (.slice A n c))
    (hx : a.eval x = .pointer (some ⟨b, 1, none⟩)) (hy : a.eval y = .slice A n c) (h : ∀ w', Bx w' base b t cs V' s' → Step (· = b) w w' → wpList Tryz.prog ops Q rest a w') : wpList Tryz.prog ops Q (o :: rest) a w :=
  wpList_plain hgd fun K hK => by
    obtain ⟨h1, h2⟩ := Bx.set' hk hO hT 1 (.slice A n c) hV
    have h3 := h _ h1 (.of_grown h2 fun k hk => by injection hk with hk; exact hk.symm)
    have hc : w.cell? ⟨b, 1, none⟩ = some V.orders := hk.cell rfl
    have hf := hk.frozen 1
    clear h hk hO h1 h2 hV
    unfold Oper.wp
    simp only [execOp, ho, hx, hy]
    go_simp
    exact hK _ _ h3
/-- A slice stored into the box; the state is the other one then. -/
theorem wp_st_holds' (hgd : o.guard = none) (x y : Operand) (ho : o.op = .store 28 x y) (hn : o.dst = none) (A : Option Addr) (n c : Nat) {V' : SV} {s' : State} (hk : Blk w b t (V.cells ++ cs)) (hO : OwnSt w base V' s') (hT : BoxT t) (hV : V'.cells ++ cs = (V.cells ++ cs).set 2 (.slice A n c))
    (hx : a.eval x = .pointer (some ⟨b, 2, none⟩)) (hy : a.eval y = .slice A n c) (h : ∀ w', Bx w' base b t cs V' s' → Step (· = b) w w' → wpList Tryz.prog ops Q rest a w') : wpList Tryz.prog ops Q (o :: rest) a w :=
  wpList_plain hgd fun K hK => by
    obtain ⟨h1, h2⟩ := Bx.set' hk hO hT 2 (.slice A n c) hV
    have h3 := h _ h1 (.of_grown h2 fun k hk => by injection hk with hk; exact hk.symm)
    have hc : w.cell? ⟨b, 2, none⟩ = some V.holds := hk.cell rfl
    have hf := hk.frozen 2
    clear h hk hO h1 h2 hV
    unfold Oper.wp
    simp only [execOp, ho, hx, hy]
    go_simp
    exact hK _ _ h3
/-- A slice stored into the box; the state is the other one then. -/
theorem wp_st_moves' (hgd : o.guard = none) (x y : Operand) (ho : o.op = .store 29 x y) (hn : o.dst = none) (A : Option Addr) (n c : Nat) {V' : SV} {s' : State} (hk : Blk w b t (V.cells ++ cs)) (hO : OwnSt w base V' s') (hT : BoxT t) (hV : V'.cells ++ cs = (V.cells ++ cs).set 3 (.slice A n c))
    (hx : a.eval x = .pointer (some ⟨b, 3, none⟩)) (hy : a.eval y = .slice A n c) (h : ∀ w', Bx w' base b t cs V' s' → Step (· = b) w w' → wpList Tryz.prog ops Q rest a w') : wpList Tryz.prog ops Q (o :: rest) a w :=
  wpList_plain hgd fun K hK => by
    obtain ⟨h1, h2⟩ := Bx.set' hk hO hT 3 (.slice A n c) hV
    have h3 := h _ h1 (.of_grown h2 fun k hk => by injection hk with hk; exact hk.symm)
    have hc : w.cell? ⟨b, 3, none⟩ = some V.moves := hk.cell rfl
    have hf := hk.frozen 3
    clear h hk hO h1 h2 hV
    unfold Oper.wp
    simp only [execOp, ho, hx, hy]
    go_simp
    exact hK _ _ h3
set_option maxHeartbeats 1000000 in
/-- A number of a line. -/
theorem wp_st_line (hgd : o.guard = none) (x z : Operand) (ho : o.op = .store 3 x z) (hn : o.dst = none) {i k j gl n c : Nat} {y : Line} {q : Int} (hB : Bx w base b t cs V s) (hi : i < s.orders.length) (hk : k < (s.order i).lines.length)
    (hv : V.line i = .slice (some ⟨gl, 0, none⟩) n c) (hj : j < 4) (hy : cLine y = (cLine (s.line i k)).set j (.int .i64 q)) (hx : a.eval x = .pointer (some ⟨gl, k * 4 + j, none⟩)) (hz : a.eval z = .int .i64 q)
    (h : ∀ w', Bx w' base b t cs V (s.setLine i k y) → Step (· = gl) w w' → wpList Tryz.prog ops Q rest a w') : wpList Tryz.prog ops Q (o :: rest) a w :=
  wpList_plain hgd fun K hK => by
    obtain ⟨g', c', cur, e1, _, e3, f0, f1, f2, f3⟩ := hB.own.lineAt hi hk
    rw [hv] at e1
    injection e1 with e1
    injection e1 with e1
    injection e1 with e1
    subst e1
    obtain ⟨h1, h2⟩ := hB.own.setLine hi hk hv hj hy
    have h3 := h _ ⟨hB.off e3 hB.ty.h4 h2, h1, hB.ty⟩ (.of_grown h2 fun k hk => by injection hk with hk; exact hk.symm)
    have hf := e3.frozen (k * 4 + j)
    obtain ⟨u, hc⟩ := four_cells hj f0 f1 f2 f3
    clear h hB h1 h2 f0 f1 f2 f3 e3 hy
    unfold Oper.wp
    simp only [execOp, ho, hx, hz]
    go_simp
    exact hK _ _ h3
end
end Wh
namespace Wh
open Go Go.RowKit

section
variable {P : Program}
theorem run_storeVar_blk (w : World) (g o : Nat) (e ty : TypeId) (cur cs : List Value) (hg : Blk w g e cur) (hfit : o + cs.length ≤ cur.length) (hi : (P.info? ty).map (·.size) = some cs.length) (h1 : ∀ v ∈ cs, v.oneCell' = true) :
    (storeVar ty ⟨g, o, none⟩ (.agg cs.toArray)).run P w = .ok () (w.setRow g (spl cur o cs).toArray) := by
  have := run_storeCells_at P g o e cs 0 cur.toArray w hg (by simpa using hfit) h1
  cases hq : P.info? ty with
  | none => simp [hq] at hi
  | some i =>
    have hs : i.size = cs.length := by simpa [hq] using hi
    simp only [Nat.add_zero] at this
    simp [storeVar, Go.sizeOf, typeInfo, hq, Value.cells, hs, this, spl]
theorem flat_put {α : Type} (enc : α → List Value) (k : Nat) (hk : ∀ x, (enc x).length = k) {l : List α} {i : Nat} (hi : i < l.length) (y : α) {cur : List Value} (hc : l.length * k ≤ cur.length) (ht : cur.take (l.length * k) = l.flatMap enc) :
    (spl cur (i * k) (enc y)).take (l.length * k) = (l.set i y).flatMap enc := by
  have h1 : (i + 1) * k ≤ l.length * k := Nat.mul_le_mul_right _ (by omega)
  have h2 : i * k + k = (i + 1) * k := by rw [Nat.add_mul]; omega
  have e1 : l.set i y = l.take i ++ [y] ++ l.drop (i + 1) := by
    rw [List.set_eq_take_append_cons_drop, if_pos hi, List.append_assoc]
    rfl
  rw [e1, List.flatMap_append, List.flatMap_append, List.flatMap_singleton, ← flat_take enc k hk, ← flat_drop enc k hk, ← ht]
  have e2 : (cur.take (i * k) ++ enc y).length = (i + 1) * k := by rw [List.length_append, List.length_take, hk, Nat.min_eq_left (by omega), h2]
  unfold spl
  rw [hk, h2, List.take_append, List.take_of_length_le (by rw [e2]; exact h1), e2, List.take_take, Nat.min_eq_left (by omega), List.drop_take]
theorem Own.put {α : Type} {enc : α → List Value} {size : Nat} {e : TypeId} {w : World} {base g n c : Nat} {l : List α} (h : Own enc size e w base (.slice (some ⟨g, 0, none⟩) n c) l) (hk : ∀ x, (enc x).length = size) {i : Nat} (hi : i < l.length) (y : α)
    {ty : TypeId} (hty : (P.info? ty).map (·.size) = some size) (h1 : ∀ v ∈ enc y, v.oneCell' = true) :
    ∃ w', (storeVar ty ⟨g, i * size, none⟩ (.agg (enc y).toArray)).run P w = .ok () w' ∧ Own enc size e w' base (.slice (some ⟨g, 0, none⟩) n c) (l.set i y) ∧ w.grownBy w' (some g) := by
  obtain ⟨g', cap, cur, e1, hb, hg, h2, h3, h4, h5⟩ := h.row (by omega)
  injection e1 with e1 e2 e3
  injection e1 with e1
  injection e1 with e1
  subst e1 e2 e3
  have hle : l.length * size ≤ cur.length := by rw [h4]; exact Nat.mul_le_mul_right _ h2
  have hfit : i * size + (enc y).length ≤ cur.length := by
    rw [hk]
    have : (i + 1) * size ≤ l.length * size := Nat.mul_le_mul_right _ (by omega)
    rw [Nat.add_mul] at this
    omega
  refine ⟨_, run_storeVar_blk w g (i * size) e ty cur (enc y) hg hfit (by rw [hk]; exact hty) h1, ?_, grown_row w g _⟩
  have := Own.of_row (l := l.set i y) hk hb (hg.row (spl cur (i * size) (enc y))) (by rw [List.length_set]; exact h2) h3 (by rw [spl_length hfit]; exact h4) (by rw [List.length_set]; exact flat_put enc size hk hi y hle h5)
  rwa [List.length_set] at this
/-- 's[i] = x', a struct. -/
theorem wpList_put {α : Type} {enc : α → List Value} {size : Nat} {e : TypeId} {w : World} {base g n c : Nat} {l : List α} {ops : Array Oper} {rest : List Oper} {o : Oper} {a : Go.Act} {Q : Exit → Go.Act → World → Prop} (hgd : o.guard = none) (x z : Operand) (ty : TypeId) (ho : o.op = .store ty x z) (hn : o.dst = none)
    (h : Own enc size e w base (.slice (some ⟨g, 0, none⟩) n c) l) (hk : ∀ x, (enc x).length = size) {i : Nat} (hi : i < l.length) (y : α) (hty : (P.info? ty).map (·.size) = some size) (h1 : ∀ v ∈ enc y, v.oneCell' = true)
    (hx : a.eval x = .pointer (some ⟨g, i * size, none⟩)) (hy : a.eval z = .agg (enc y).toArray)
    (hK : ∀ w', Own enc size e w' base (.slice (some ⟨g, 0, none⟩) n c) (l.set i y) → w.grownBy w' (some g) → wpList P ops Q rest a w') : wpList P ops Q (o :: rest) a w :=
  wpList_plain hgd fun K hK' => by
    obtain ⟨w', hr, h2, h3⟩ := h.put hk hi y hty h1
    unfold Oper.wp execOp
    simp only [ho, hx, hy, Instr.storeAt, Instr.sureAddr, Sem.run_bind, Sem.run_pure, Result.andThen_ok, hr]
    have hk := hK' (a.put o.dst undef) w' (by rw [hn]; exact hK _ h2 h3)
    exact hk
/-- The row's head alone, what lies behind it cleared. -/
theorem Own.cut {α : Type} {enc : α → List Value} {size : Nat} {e : TypeId} {w : World} {base g n c : Nat} {l : List α} (h : Own enc size e w base (.slice (some ⟨g, 0, none⟩) n c) l) (hk : ∀ x, (enc x).length = size) {i : Nat} (hi : i < l.length)
    {t : TypeId} {z : Value} (ht : P.underlying t = some (.slice e)) (hv : ∀ w, (zeroValue e).run P w = .ok z w) (hz : z.cells.size = size) (h1 : ∀ v ∈ z.cells, v.oneCell' = true) :
    ∃ w', (∀ ty c', (Builtin.clear_ #[t] ty #[.slice (some ⟨g, i * size, none⟩) (n - i) c']).run P w = .ok (.tuple #[]) w') ∧ Own enc size e w' base (.slice (some ⟨g, 0, none⟩) i c) (l.take i) ∧ w.grownBy w' (some g) := by
  obtain ⟨g', cap, cur, e1, hb, hg, h2, h3, h4, h5⟩ := h.row (by omega)
  injection e1 with e1 e2 e3
  injection e1 with e1
  injection e1 with e1
  subst e1 e2 e3
  have hle : l.length * size ≤ cur.length := by rw [h4]; exact Nat.mul_le_mul_right _ h2
  have hsp : i * size + (l.length - i) * size = l.length * size := by rw [← Nat.add_mul]; congr 1; omega
  have hzl : (Builtin.zeroCells z.cells (l.length - i)).toList.length = (l.length - i) * size := by rw [Array.length_toList, zeroCells_length, hz]
  refine ⟨_, fun ty c' => run_clear_blk (P := P) w t e ty z ht hv h1 g (i * size) (l.length - i) c' cur hg (by omega) (by rw [hz]; omega), ?_, grown_row w g _⟩
  have hlen : (l.take i).length = i := by rw [List.length_take]; omega
  have := Own.of_row (l := l.take i) hk hb (hg.row (spl cur (i * size) (Builtin.zeroCells z.cells (l.length - i)).toList)) (by rw [hlen]; omega) h3 (by rw [spl_length (by rw [hzl]; omega)]; exact h4) (by
    rw [hlen, spl_lo (by omega), ← flat_take enc size hk, ← h5, List.take_take, Nat.min_eq_left (by omega)])
  rwa [hlen] at this
end
end Wh
namespace Wh
open Go Go.RowKit Go.Proofs

namespace OwnSt
variable {w w' : World} {base : Nat} {V : SV} {s : State}
/-- The moves' block was written. -/
theorem wroteMoves (h : OwnSt w base V s) (hg : w.grownBy w' V.moves.ownBlock) {v : Value} {l : List Move} (hv : Own cMove 4 48 w' base v l) : OwnSt w' base { V with moves := v } { s with moves := l } := h.newMoves hg hv
end OwnSt

section
variable {ops : Array Oper} {rest : List Oper} {o : Oper} {a : Act} {w : World} {Q : Exit → Act → World → Prop} {base b : Nat} {t : TypeId} {cs : List Value} {V : SV} {s : State}
/-- An order's kind. -/
theorem wp_st_kind (hgd : o.guard = none) (x z : Operand) (ho : o.op = .store 3 x z) (hn : o.dst = none) {i go n c : Nat} {q : Int} (hB : Bx w base b t cs V s) (hi : i < s.orders.length)
    (hv : V.orders = .slice (some ⟨go, 0, none⟩) n c) (hx : a.eval x = .pointer (some ⟨go, i * 2, none⟩)) (hz : a.eval z = .int .i64 q)
    (h : ∀ w', Bx w' base b t cs V { s with orders := s.orders.set i { s.order i with kind := q } } → Step (· = go) w w' → wpList Tryz.prog ops Q rest a w') : wpList Tryz.prog ops Q (o :: rest) a w :=
  wpList_plain hgd fun K hK => by
    obtain ⟨g', c', cur, e1, _, e3, f0, f1⟩ := hB.own.orderAt hi
    rw [hv] at e1
    injection e1 with e1
    injection e1 with e1
    injection e1 with e1
    subst e1
    obtain ⟨h1, h2⟩ := hB.own.setKind hi hv q
    have h3 := h _ ⟨hB.off e3 hB.ty.h3 h2, h1, hB.ty⟩ (.of_grown h2 fun k hk => by injection hk with hk; exact hk.symm)
    have hf := e3.frozen (i * 2)
    clear h hB h1 h2 f1 e3
    unfold Oper.wp
    simp only [execOp, ho, hx, hz]
    go_simp
    exact hK _ _ h3
/-- A number of a shelf. -/
theorem wp_st_on (hgd : o.guard = none) (x z : Operand) (ho : o.op = .store 3 x z) (hn : o.dst = none) {i g gr n c : Nat} {q : Int} (hB : Bx w base b t cs V s) (hi : i < s.on.length) (hg : g < (rowAt s.on i).length)
    (hv : V.row i = .slice (some ⟨gr, 0, none⟩) n c) (hx : a.eval x = .pointer (some ⟨gr, g, none⟩)) (hz : a.eval z = .int .i64 q)
    (h : ∀ w', Bx w' base b t cs V { s with on := setCell s.on i g q } → Step (· = gr) w w' → wpList Tryz.prog ops Q rest a w') : wpList Tryz.prog ops Q (o :: rest) a w :=
  wpList_plain hgd fun K hK => by
    obtain ⟨_, _, _, g', c', cur, _, _, _, _, e1, _, e3, f0⟩ := hB.own.onAt hi hg
    rw [hv] at e1
    injection e1 with e1
    injection e1 with e1
    injection e1 with e1
    subst e1
    obtain ⟨h1, h2⟩ := hB.own.setOn hi hg hv q
    have h3 := h _ ⟨hB.off e3 hB.ty.h2 h2, h1, hB.ty⟩ (.of_grown h2 fun k hk => by injection hk with hk; exact hk.symm)
    have hf := e3.frozen g
    clear h hB h1 h2 e3
    unfold Oper.wp
    simp only [execOp, ho, hx, hz]
    go_simp
    exact hK _ _ h3
theorem wp_st_out (hgd : o.guard = none) (x z : Operand) (ho : o.op = .store 3 x z) (hn : o.dst = none) {g gr n c : Nat} {q : Int} (hB : Bx w base b t cs V s) (hg : g < s.out.length)
    (hv : V.out = .slice (some ⟨gr, 0, none⟩) n c) (hx : a.eval x = .pointer (some ⟨gr, g, none⟩)) (hz : a.eval z = .int .i64 q)
    (h : ∀ w', Bx w' base b t cs V { s with out := s.out.set g q } → Step (· = gr) w w' → wpList Tryz.prog ops Q rest a w') : wpList Tryz.prog ops Q (o :: rest) a w :=
  wpList_plain hgd fun K hK => by
    obtain ⟨g', c', cur, e1, _, e3, f0⟩ := OwnSt.intAtOwn hB.own.out hg
    rw [hv] at e1
    injection e1 with e1
    injection e1 with e1
    injection e1 with e1
    subst e1
    obtain ⟨h1, h2⟩ := hB.own.setOut hg hv q
    have h3 := h _ ⟨hB.off e3 hB.ty.h2 h2, h1, hB.ty⟩ (.of_grown h2 fun k hk => by injection hk with hk; exact hk.symm)
    have hf := e3.frozen g
    clear h hB h1 h2 e3
    unfold Oper.wp
    simp only [execOp, ho, hx, hz]
    go_simp
    exact hK _ _ h3
theorem wp_st_fixed (hgd : o.guard = none) (x z : Operand) (ho : o.op = .store 3 x z) (hn : o.dst = none) {g gr n c : Nat} {q : Int} (hB : Bx w base b t cs V s) (hg : g < s.fixed.length)
    (hv : V.fixed = .slice (some ⟨gr, 0, none⟩) n c) (hx : a.eval x = .pointer (some ⟨gr, g, none⟩)) (hz : a.eval z = .int .i64 q)
    (h : ∀ w', Bx w' base b t cs V { s with fixed := s.fixed.set g q } → Step (· = gr) w w' → wpList Tryz.prog ops Q rest a w') : wpList Tryz.prog ops Q (o :: rest) a w :=
  wpList_plain hgd fun K hK => by
    obtain ⟨g', c', cur, e1, _, e3, f0⟩ := OwnSt.intAtOwn hB.own.fixed hg
    rw [hv] at e1
    injection e1 with e1
    injection e1 with e1
    injection e1 with e1
    subst e1
    obtain ⟨h1, h2⟩ := hB.own.setFixed hg hv q
    have h3 := h _ ⟨hB.off e3 hB.ty.h2 h2, h1, hB.ty⟩ (.of_grown h2 fun k hk => by injection hk with hk; exact hk.symm)
    have hf := e3.frozen g
    clear h hB h1 h2 e3
    unfold Oper.wp
    simp only [execOp, ho, hx, hz]
    go_simp
    exact hK _ _ h3
end
end Wh
