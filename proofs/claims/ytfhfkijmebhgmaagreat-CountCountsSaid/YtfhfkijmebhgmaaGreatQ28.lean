/- Texts of the claim, joined: PlainU, Del, WaveC. -/
import Derived.Test.YtfhfkijmebhgmaaGreatQ12
import Derived.Test.YtfhfkijmebhgmaaGreatQ04
import Derived.Test.YtfhfkijmebhgmaaGreatQ08
import Derived.Test.YtfhfkijmebhgmaaGreatQ19
import Derived.Test.YtfhfkijmebhgmaaGreatQ20
import Derived.Test.YtfhfkijmebhgmaaGreatQ22
namespace Wh
namespace Cutter
variable {α : Type} (C : Cutter α)
/-- What lies there, and what is over, when all from place j on has been cut. -/
def mid (l : List α) (v : Int) (j : Nat) : List α × Int := (l.take j ++ (C.cut (l.drop j) v).1, (C.cut (l.drop j) v).2)
variable {C}
theorem mid_top (l : List α) (v : Int) : C.mid l v l.length = (l, v) := by
  unfold mid
  rw [List.drop_length, List.take_length]
  show (l ++ [], v) = _
  rw [List.append_nil]
theorem mid_zero (l : List α) (v : Int) : C.mid l v 0 = C.cut l v := rfl
theorem mid_len (l : List α) (v : Int) (j : Nat) : (C.mid l v j).1.length = l.length := by
  unfold mid
  rw [List.length_append, cut_length, List.length_take, List.length_drop]
  omega
theorem mid_at {l : List α} (v : Int) {i j : Nat} (hi : i < l.length) (hij : i < j) : (C.mid l v j).1[i]? = some l[i] := by
  unfold mid
  rw [List.getElem?_append_left (by rw [List.length_take]; omega), List.getElem?_take_of_lt hij, List.getElem?_eq_getElem hi]
theorem mid_not {l : List α} (v : Int) {j : Nat} (hj : j < l.length) (h : C.is l[j] = false) : C.mid l v j = C.mid l v (j + 1) := by
  unfold mid
  rw [List.drop_eq_getElem_cons hj, cut_not h, List.take_succ_eq_append_getElem hj, List.append_assoc]
  rfl
theorem mid_is {l : List α} (v : Int) {j : Nat} (hj : j < l.length) (h : C.is l[j] = true) :
    C.mid l v j = ((C.mid l v (j + 1)).1.set j (C.put l[j] (C.num l[j] - less (C.mid l v (j + 1)).2 (C.num l[j]))), (C.mid l v (j + 1)).2 - less (C.mid l v (j + 1)).2 (C.num l[j])) := by
  unfold mid
  rw [List.drop_eq_getElem_cons hj, cut_is h, List.take_succ_eq_append_getElem hj, List.append_assoc]
  have hl : (List.take j l).length ≤ j := by rw [List.length_take]; omega
  have e : j - (List.take j l).length = 0 := by rw [List.length_take]; omega
  rw [List.set_append_right _ _ hl, e]
  rfl
theorem mid_map {β : Type} (f : α → β) (hf : ∀ x n, f (C.put x n) = f x) (l : List α) (v : Int) (j : Nat) : (C.mid l v j).1.map f = l.map f := by
  unfold mid
  rw [List.map_append, cut_map f hf, ← List.map_append, List.take_append_drop]
theorem mid_over {l : List α} (h : ∀ x ∈ l, 0 ≤ C.num x) (v : Int) (j : Nat) : min v 0 ≤ (C.mid l v j).2 ∧ (C.mid l v j).2 ≤ v := by
  have hd : ∀ x ∈ l.drop j, 0 ≤ C.num x := fun x hx => h x (List.mem_of_mem_drop hx)
  have := cut_over hd v
  have h2 := all_nonneg hd
  unfold mid
  simp only
  omega
end Cutter

def hkey (h : Hold) : Int × Int × Int := (h.order, h.line, h.bin)
theorem keptAt_cons' (x : Hold) (r : List Hold) (o k b : Int) : keptAt (x :: r) o k b = if x.order = o ∧ x.line = k ∧ x.bin = b then x.n else keptAt r o k b := by
  unfold keptAt
  rw [List.find?_cons]
  by_cases h : x.order = o ∧ x.line = k ∧ x.bin = b
  · have e : sameKey o k b x = true := by unfold sameKey; simp [h.1, h.2.1, h.2.2]
    rw [e, if_pos h]
  · have e : sameKey o k b x = false := by
      unfold sameKey
      by_cases h1 : x.order = o <;> by_cases h2 : x.line = k <;> by_cases h3 : x.bin = b <;> simp [h1, h2, h3]
      exact h ⟨h1, h2, h3⟩
    rw [e, if_neg h]
theorem keptAt_at : ∀ {l : List Hold}, (l.map hkey).Nodup → ∀ {i : Nat} (hi : i < l.length), keptAt l l[i].order l[i].line l[i].bin = l[i].n
  | [], _, i, hi => by simp at hi
  | x :: r, hn, 0, _ => by rw [keptAt_cons']; simp
  | x :: r, hn, i + 1, hi => by
    rw [List.map_cons, List.nodup_cons] at hn
    have hi' : i < r.length := by simpa using hi
    rw [keptAt_cons', if_neg]
    · exact keptAt_at hn.2 hi'
    · rintro ⟨h1, h2, h3⟩
      refine hn.1 (List.mem_map.2 ⟨r[i], List.getElem_mem hi', ?_⟩)
      unfold hkey
      simp only [List.getElem_cons_succ] at h1 h2 h3
      rw [h1, h2, h3]
theorem keptAt_not {l : List Hold} {o k b : Int} (h : ∀ x ∈ l, ¬ (x.order = o ∧ x.line = k ∧ x.bin = b)) : keptAt l o k b = 0 := by
  induction l with
  | nil => rfl
  | cons x r ih => rw [keptAt_cons', if_neg (h x (List.mem_cons_self ..)), ih fun y hy => h y (List.mem_cons_of_mem _ hy)]
theorem keptAt_keep {l : List Hold} (hn : (l.map hkey).Nodup) (o k b : Int) : keptAt (l.filter fun h => !decide (h.n = 0)) o k b = keptAt l o k b := by
  induction l with
  | nil => rfl
  | cons x r ih =>
    rw [List.map_cons, List.nodup_cons] at hn
    rw [List.filter_cons, keptAt_cons']
    by_cases h0 : x.n = 0
    · rw [if_neg (by simp [h0]), ih hn.2]
      split
      · rename_i h
        rw [h0]
        refine keptAt_not fun y hy hh => hn.1 (List.mem_map.2 ⟨y, hy, ?_⟩)
        unfold hkey
        rw [hh.1, hh.2.1, hh.2.2, h.1, h.2.1, h.2.2]
      · rfl
    · rw [if_pos (by simp [h0]), keptAt_cons', ih hn.2]
theorem map_set_key {l : List Hold} {j : Nat} (hj : j < l.length) (y : Int) : (l.set j { l[j] with n := y }).map hkey = l.map hkey := by
  rw [List.map_set]
  apply List.ext_getElem?
  intro i
  rw [List.getElem?_set]
  split
  · rename_i h
    subst h
    rw [if_pos (by simpa using hj), List.getElem?_map, List.getElem?_eq_getElem hj]
    rfl
  · rfl
theorem keptAt_set {l : List Hold} (hn : (l.map hkey).Nodup) {j : Nat} (hj : j < l.length) (y : Int) (o k b : Int) :
    keptAt (l.set j { l[j] with n := y }) o k b = if l[j].order = o ∧ l[j].line = k ∧ l[j].bin = b then y else keptAt l o k b := by
  have hn' : ((l.set j { l[j] with n := y }).map hkey).Nodup := by rw [map_set_key hj]; exact hn
  have hlen : (l.set j { l[j] with n := y }).length = l.length := List.length_set ..
  split
  · rename_i h
    have := keptAt_at hn' (i := j) (by omega)
    rw [List.getElem_set_self] at this
    rw [← h.1, ← h.2.1, ← h.2.2]
    exact this
  · rename_i h
    by_cases hx : ∃ i, ∃ hi : i < l.length, l[i].order = o ∧ l[i].line = k ∧ l[i].bin = b
    · obtain ⟨i, hi, h1, h2, h3⟩ := hx
      have hij : j ≠ i := fun e => by subst e; exact h ⟨h1, h2, h3⟩
      have e1 := keptAt_at hn hi
      have e2 := keptAt_at hn' (i := i) (by omega)
      rw [List.getElem_set_ne hij] at e2
      rw [h1, h2, h3] at e1 e2
      rw [e1, e2]
    · have hnot : ∀ x ∈ l, ¬ (x.order = o ∧ x.line = k ∧ x.bin = b) := fun x hx' hh => by
        obtain ⟨i, hi, rfl⟩ := List.getElem_of_mem hx'
        exact hx ⟨i, hi, hh⟩
      rw [keptAt_not hnot, keptAt_not]
      intro x hx' hh
      obtain ⟨i, hi, rfl⟩ := List.getElem_of_mem hx'
      by_cases hij : j = i
      · subst hij
        rw [List.getElem_set_self] at hh
        exact h hh
      · rw [List.getElem_set_ne hij] at hh
        exact hx ⟨i, by omega, hh⟩
theorem ok_nodup {l : List Hold} (h : holdsOk l = true) : (l.map hkey).Nodup := by
  have h2 := (holdsOk_iff.1 h).2
  rw [List.Nodup, List.pairwise_map]
  refine List.Pairwise.imp (fun {a b} hlt he => ?_) h2
  unfold hkey at he
  simp only [Prod.mk.injEq] at he
  unfold place at hlt
  rw [he.1, he.2.1, he.2.2] at hlt
  omega

/-- The state while the holds are cut: what went from a bin is a line's to have again. -/
def hdO (s : State) (b : Int) (l : List Hold) : List Order :=
  s.orders.mapIdx fun o x => { x with lines := x.lines.mapIdx fun k y => { y with back := y.back + (keptAt s.holds o k b - keptAt l o k b) } }
def hdS (s : State) (b : Int) (l : List Hold) : State := { s with holds := l, orders := hdO s b l }
section
variable {s : State} {b : Int} {l : List Hold}
theorem hdO_get (o : Nat) : (hdO s b l)[o]? = s.orders[o]?.map fun x => { x with lines := x.lines.mapIdx fun k y => { y with back := y.back + (keptAt s.holds o k b - keptAt l o k b) } } := by
  unfold hdO
  rw [List.getElem?_mapIdx]
theorem hdO_len : (hdO s b l).length = s.orders.length := by simp [hdO]
theorem hdS_order {o : Nat} (ho : o < s.orders.length) : (hdS s b l).order o = { s.order o with lines := (s.order o).lines.mapIdx fun k y => { y with back := y.back + (keptAt s.holds o k b - keptAt l o k b) } } := by
  unfold State.order orderAt hdS
  simp only [List.getD_eq_getElem?_getD, hdO_get, List.getElem?_eq_getElem ho]
  rfl
theorem hdS_lines {o : Nat} (ho : o < s.orders.length) : ((hdS s b l).order o).lines.length = (s.order o).lines.length := by rw [hdS_order ho]; simp
theorem hdS_line {o k : Nat} (ho : o < s.orders.length) (hk : k < (s.order o).lines.length) : (hdS s b l).line o k = { s.line o k with back := (s.line o k).back + (keptAt s.holds o k b - keptAt l o k b) } := by
  unfold State.line
  rw [hdS_order ho, lineAt_eq (by simpa using hk), lineAt_eq hk]
  simp
theorem hdO_congr {l' : List Hold} (h : ∀ o k : Nat, keptAt l' o k b = keptAt l o k b) : hdO s b l' = hdO s b l := by
  unfold hdO
  simp only [h]
theorem hdO_self : hdO s b s.holds = s.orders := by
  have e : ∀ x : List Line, (x.mapIdx fun _ y => y) = x := fun x => by
    apply List.ext_getElem?
    intro i
    simp
  have e2 : ∀ x : List Order, (x.mapIdx fun _ y => y) = x := fun x => by
    apply List.ext_getElem?
    intro i
    simp
  unfold hdO
  simp only [Int.sub_self, Int.add_zero, e, e2]
theorem hdS_self : hdS s b s.holds = s := by unfold hdS; rw [hdO_self]
/-- A hold has m fewer, and its line m more to have. -/
theorem hdS_step (hn : (l.map hkey).Nodup) {j : Nat} (hj : j < l.length) {o k : Nat} {m : Int} (h1 : l[j].order = o) (h2 : l[j].line = k) (h3 : l[j].bin = b) (ho : o < s.orders.length) (hk : k < (s.order o).lines.length) :
    hdS s b (l.set j { l[j] with n := l[j].n - m }) = ({ hdS s b l with holds := l.set j { l[j] with n := l[j].n - m } } : State).setLine o k { (hdS s b l).line o k with back := ((hdS s b l).line o k).back + m } := by
  have hka := keptAt_at hn hj
  rw [h1, h2, h3] at hka
  have hkey : ∀ o' k' : Nat, keptAt (l.set j { l[j] with n := l[j].n - m }) o' k' b = keptAt l o' k' b - (if o' = o ∧ k' = k then m else 0) := fun o' k' => by
    rw [keptAt_set hn hj, h1, h2, h3]
    by_cases h : o' = o ∧ k' = k
    · obtain ⟨rfl, rfl⟩ := h
      rw [if_pos ⟨rfl, rfl, rfl⟩, if_pos ⟨rfl, rfl⟩, hka]
    · rw [if_neg (fun hh => h ⟨by omega, by omega⟩), if_neg h]
      omega
  have hord : (({ hdS s b l with holds := l.set j { l[j] with n := l[j].n - m } } : State)).order o = (hdS s b l).order o := rfl
  unfold State.setLine
  rw [hord]
  unfold hdS
  simp only [State.mk.injEq, true_and, and_true]
  apply List.ext_getElem?
  intro o'
  rw [hdO_get, List.getElem?_set]
  by_cases he : o = o'
  · subst he
    rw [if_pos rfl, if_pos (by rw [hdO_len]; exact ho), List.getElem?_eq_getElem ho]
    have e0 : s.order o = s.orders[o] := by unfold State.order; rw [orderAt_eq ho]
    have e1 : State.order { s with holds := l, orders := hdO s b l } o = { s.order o with lines := (s.order o).lines.mapIdx fun k y => { y with back := y.back + (keptAt s.holds o k b - keptAt l o k b) } } := hdS_order ho
    have e2 : State.line { s with holds := l, orders := hdO s b l } o k = { s.line o k with back := (s.line o k).back + (keptAt s.holds o k b - keptAt l o k b) } := hdS_line ho hk
    rw [e1, e2]
    simp only [Option.map_some, Option.some.injEq, Order.mk.injEq]
    refine ⟨by rw [e0], ?_⟩
    apply List.ext_getElem?
    intro k'
    rw [List.getElem?_mapIdx, List.getElem?_set, List.getElem?_mapIdx, ← e0]
    by_cases hke : k = k'
    · subst hke
      rw [if_pos rfl, if_pos (by simpa using hk), List.getElem?_eq_getElem hk, hkey o k, if_pos ⟨rfl, rfl⟩]
      have : s.line o k = (s.order o).lines[k] := by unfold State.line; rw [lineAt_eq hk]
      rw [this]
      simp only [Option.map_some, Option.some.injEq, Line.mk.injEq, true_and]
      omega
    · rw [if_neg hke]
      cases hq : (s.order o).lines[k']? with
      | none => rfl
      | some y =>
        simp only [Option.map_some]
        rw [hkey o k', if_neg (fun h => hke h.2.symm)]
        simp
  · rw [if_neg he, hdO_get]
    cases hq : s.orders[o']? with
    | none => rfl
    | some x =>
      simp only [Option.map_some, Option.some.injEq, Order.mk.injEq, true_and]
      apply List.ext_getElem?
      intro k'
      rw [List.getElem?_mapIdx, List.getElem?_mapIdx]
      cases hq2 : x.lines[k']? with
      | none => rfl
      | some y =>
        simp only [Option.map_some]
        rw [hkey o' k', if_neg (fun h => he h.1.symm)]
        simp
end
/-- What counting leaves ahead of the lines' holding anew, in the order in which the program goes. -/
theorem cut_is_hd {p : Plan} {s : State} {b g : Nat} {seen : Int} (hs : Sane p s) :
    let s1 : State := { s with on := setCell s.on b g seen, fixed := s.fixed.set g (intAt s.fixed g + seen - cell s.on b g), moves := (mvC b g).rest s.moves (bound s b g - seen) }
    cutS s b g seen (over s b g seen) = hdS s1 b ((hdC s1 b g).rest s1.holds ((mvC b g).mid s.moves (bound s b g - seen) 0).2) := by
  intro s1
  have hm := mv_pos hs b g
  have hh := hd_pos hs b g
  have hC : hdC s1 b g = hdC s b g := rfl
  have h1 : cutMv s b g (over s b g seen) = (mvC b g).rest s.moves (bound s b g - seen) := by
    unfold cutMv over
    rw [Cutter.rest_max hm (bound s b g - seen)]
  have hov := Cutter.cut_over (fun x hx => by have := hm x hx; omega) (bound s b g - seen) (C := mvC b g) (l := s.moves)
  have h2 : cutHd s b g (over s b g seen) = (hdC s1 b g).rest s1.holds ((mvC b g).mid s.moves (bound s b g - seen) 0).2 := by
    rw [hC, Cutter.mid_zero, hov]
    unfold cutHd over
    rw [← mv_all, Cutter.rest_max hh, Cutter.rest_max hh (bound s b g - seen - _)]
    congr 1
    have := Cutter.all_nonneg (C := mvC b g) (l := s.moves) fun x hx => by have := hm x hx; omega
    omega
  unfold hdS cutS
  rw [← h2, h1]
  rfl
end Wh
namespace Wh
open Go Go.RowKit Go.Shelf Go.Proofs
attribute [local go_sem] run_indexAt_letter

theorem take_filter_yes {α : Type} {l : List α} {j : Nat} (hj : j < l.length) (P : α → Bool) (h : P l[j] = true) : (l.take (j + 1)).filter P = (l.take j).filter P ++ [l[j]] := by
  rw [List.take_succ_eq_append_getElem hj, List.filter_append]
  simp [h]
theorem take_filter_no {α : Type} {l : List α} {j : Nat} (hj : j < l.length) (P : α → Bool) (h : P l[j] = false) : (l.take (j + 1)).filter P = (l.take j).filter P := by
  rw [List.take_succ_eq_append_getElem hj, List.filter_append]
  simp [h]
theorem take_idx {α : Type} {l : List α} {P : α → Bool} (h : l.any P = true) : l.findIdx P < l.length ∧ ((l.take (l.findIdx P + 1)).filter fun x => !P x) = l.take (l.findIdx P) := by
  have hlt : l.findIdx P < l.length := List.findIdx_lt_length.2 (by obtain ⟨x, hx, hp⟩ := List.any_eq_true.1 h; exact ⟨x, hx, hp⟩)
  refine ⟨hlt, ?_⟩
  rw [take_filter_no hlt _ (by have := List.findIdx_getElem (p := P) (xs := l) (w := hlt); simp [this]), List.filter_eq_self]
  intro x hx
  obtain ⟨i, hi, rfl⟩ := List.getElem_of_mem hx
  rw [List.getElem_take]
  have hi' : i < l.findIdx P := by rw [List.length_take] at hi; omega
  have := List.not_of_lt_findIdx hi'
  simp [this]

theorem infoHold4 : (Tryz.prog.info? 46).map (·.size) = some 4 := by kernel_rfl
set_option maxHeartbeats 4000000 in
set_option maxRecDepth 100000 in
theorem delFuncHold (w : World) (base : Nat) (v : Value) (l : List Hold) (gf : FuncId) (lb : Array Value) (del : Hold → Bool) (eg : Enters Tryz.prog gf) (hown : Own cHold 4 46 w base v l) (hn : l.length ≤ 1000000)
    (hf : ∀ k, k < l.length → ∀ W, Step (fun q => v.ownBlock = some q) w W → Calls Tryz.prog gf (#[vHold (hold l k)] ++ lb) W fun e W' => e = .returned (.bool (del (hold l k))) ∧ Below W.heap.size W W') :
    Calls Tryz.prog 99 #[v, .func (.func gf) #[] lb] w fun e w' => ∃ v', e = .returned v' ∧ Own cHold 4 46 w' base v' (l.filter fun x => !del x) ∧ Step (fun q => v.ownBlock = some q) w w' ∧ v'.ownBlock = v.ownBlock := by
  have hI := Lib.hid (indexFuncHold w v l gf lb del eg (hown.sl (by omega)) (fun k hk W hW => hf k hk W (.of_below hW)))
  have hF := Lib.hid hf
  have hl : l.length ≤ 140737488355232 := by omega
  have eg' : ∀ args w, Sem.run Tryz.prog (callFunc gf args) w = .ok (.enter gf args) w := eg
  obtain ⟨A, c, rfl⟩ := hown.isSlice
  have hO := Lib.hid hown
  clear hown hf
  go_enter Tryz.func99, Tryz.ntmps99
  go_wp2_with fail
  refine hI.out.mono ?_
  rintro e W1 ⟨rfl, hb1⟩
  cases ha : l.any del
  · have hid : idxOf del l = -1 := by unfold idxOf; rw [ha]; rfl
    have hfl := Lib.hid (show (l.filter fun x => !del x) = l from List.filter_eq_self.2 fun x hx => by
      have := List.any_eq_false.1 ha x hx
      simpa using this)
    rw [hid]
    clear hid ha
    go_wp2_with fail
    go_ret
    exact ⟨.slice A l.length c, rfl, by rw [hfl.out]; exact hO.out.below hb1, .of_below hb1, rfl⟩
  · obtain ⟨i0, hi0⟩ : ∃ i0, l.findIdx del = i0 := ⟨_, rfl⟩
    have hid : idxOf del l = (i0 : Int) := by unfold idxOf; rw [ha, hi0]; rfl
    obtain ⟨hlt0, htk0⟩ := take_idx ha
    rw [hi0] at hlt0 htk0
    obtain ⟨g, c', hv, hgb, hgl⟩ := hO.out.some_ (by omega)
    injection hv with e1 _ e2
    subst e1 e2
    rw [hid]
    have hne1 : ((i0 : Int) == -1) = false := by simp
    have hw0 : IntKind.i64.wrap ((i0 : Int) + 1) = (i0 : Int) + 1 := by rw [IntKind.wrap_i64]; omega
    have hob := Lib.hid (show (Value.slice (some ⟨g, 0, none⟩) l.length c).ownBlock = some g from rfl)
    have htk := Lib.hid htk0
    have hcap := Lib.hid (show l.length ≤ c ∧ c ≤ 9223372036854775807 from by
      obtain ⟨g2, c2, cur, e1, _, _, h2, h3, _⟩ := hO.out.row (by omega)
      injection e1 with _ _ e2
      subst e2
      unfold maxLen at h3
      exact ⟨h2, by omega⟩)
    clear hid ha hi0 htk0
    go_wp2_with fail
    clear hw0 hne1
    go_loopw [6, 5, 7] (fun a b _ wr => ∃ (j i : Nat) (m : List Hold), j ≤ l.length ∧ a = .int .i64 j ∧ b = .int .i64 i ∧ i < j ∧ m.length = l.length ∧ m.take i = ((l.take j).filter fun x => !del x) ∧ m.drop j = l.drop j ∧ Own cHold 4 46 wr base (.slice (some ⟨g, 0, none⟩) l.length c) m ∧
      Step (fun q => (Value.slice (some ⟨g, 0, none⟩) l.length c).ownBlock = some q) w wr) (fun a _ _ _ => l.length - (intOf a).toNat)
    case atStart =>
      exact ⟨i0 + 1, i0, l, by omega, by go_num, rfl, by omega, rfl, htk.out.symm, rfl, hO.out.below hb1, .of_below hb1⟩
    case round =>
      obtain ⟨j, i, m, hj, rfl, rfl, hij, hml, hmt, hmd, hm, hst⟩ := hrel
      have hmt' := Lib.hid hmt
      have hmd' := Lib.hid hmd
      have hm' := Lib.hid hm
      have hst' := Lib.hid hst
      clear hmt hmd hm hst htk
      by_cases hlt : j < l.length
      · have hji : (j : Int) < (l.length : Int) := by omega
        have hii : (i : Int) < (l.length : Int) := by omega
        have hjm : j < m.length := by omega
        have hmj : m[j] = hold l j := by
          have h1 : (m.drop j)[0]? = (l.drop j)[0]? := by rw [hmd'.out]
          rw [List.getElem?_drop, List.getElem?_drop, Nat.add_zero, List.getElem?_eq_getElem hjm, List.getElem?_eq_getElem hlt] at h1
          injection h1 with h1
          rw [h1, hold_get hlt]
        obtain ⟨g1, c1, cur, e1, _, hblk, hcell⟩ := hm'.out.at (fun _ => rfl) hjm
        injection e1 with e1 e2 e3
        injection e1 with e1
        injection e1 with e1
        subst e1
        clear e2 e3
        rw [hmj] at hcell
        clear hmj
        have hml' := Lib.hid hml
        clear hml hjm
        have d0 : wr.cell? ⟨g, j * 4, none⟩ = _ := hcell 0 _ rfl
        have d1 := hcell 1 _ rfl
        have d2 := hcell 2 _ rfl
        have d3 := hcell 3 _ rfl
        have hsa : Step (fun q => (Value.slice (some ⟨g, 0, none⟩) l.length c).ownBlock = some q) w (wr.alloc (.cells #[.int .i64 (hold l j).order, .int .i64 (hold l j).line, .int .i64 (hold l j).bin, .int .i64 (hold l j).n] 46)) := hst'.out.trans (.of_below ((Below.refl _ _).alloc (Nat.le_refl _) _))
        have hbl := Lib.hid (Blk.new wr 46 #[.int .i64 (hold l j).order, .int .i64 (hold l j).line, .int .i64 (hold l j).bin, .int .i64 (hold l j).n])
        have hma := Lib.hid (hm'.out.alloc (.cells #[.int .i64 (hold l j).order, .int .i64 (hold l j).line, .int .i64 (hold l j).bin, .int .i64 (hold l j).n] 46))
        clear hcell hblk
        go_wp2_with fail
        clear d0 d1 d2 d3
        refine (hF.out j hlt _ hsa).mono ?_
        rintro e W3 ⟨rfl, hb3⟩
        have hm3 := hma.out.below hb3
        have hbl3 := hbl.out.below hb3 hbl.out.lt
        have hst3 := Lib.hid (hsa.trans (.of_below hb3))
        have c0 := hbl3.cell (j := 0) rfl
        have c1 := hbl3.cell (j := 1) rfl
        have c2 := hbl3.cell (j := 2) rfl
        have c3 := hbl3.cell (j := 3) rfl
        have hdj : del l[j] = del (hold l j) := by rw [hold_get hlt]
        have hd1 : m.drop (j + 1) = l.drop (j + 1) := by rw [← List.drop_drop, hmd'.out, List.drop_drop]
        have hd1' := Lib.hid hd1
        clear hsa hma hbl hm' hst' hd1
        cases hd : del (hold l j)
        · have hyes := Lib.hid (take_filter_yes hlt (fun x => !del x) (by rw [hdj, hd]; rfl))
          have hw1 : IntKind.i64.wrap ((i : Int) + 1) = (i : Int) + 1 := by rw [IntKind.wrap_i64]; omega
          clear hd hdj
          go_wp2_with (refine wpList_put rfl (.tmp 33) (.tmp 32) 46 rfl rfl hm3 (fun _ => rfl) (i := i) (by rw [hml'.out]; omega) (hold l j) infoHold4 (oneHold _) rfl rfl (fun w4 ho4 hg4 => ?_); refine Hid.out ?_)
          unfold Hid
          have ho4' := Lib.hid ho4
          have hst4 := Lib.hid (hst3.out.trans (.of_grown hg4 fun k hk => hob.out.trans hk))
          clear c0 c1 c2 c3 hm3 hbl3 ho4 hg4 hb3
          go_wp2_with fail
          go_roundw
          case rel =>
            refine ⟨j + 1, i + 1, m.set i (hold l j), by omega, by go_num, by go_num, by omega, by rw [List.length_set]; exact hml'.out, ?_, ?_, ho4'.out, hst4.out⟩
            · rw [hyes.out, ← hmt'.out, hold_get hlt, List.take_succ_eq_append_getElem (by rw [List.length_set, hml'.out]; omega), List.getElem_set_self, List.take_set_of_le (Nat.le_refl _)]
            · rw [List.drop_set_of_lt (by omega), hd1'.out]
          case measure => simp [intOf]; omega
        · have hno := Lib.hid (take_filter_no hlt (fun x => !del x) (by rw [hdj, hd]; rfl))
          have hm3' := Lib.hid hm3
          clear hd hdj hm3 hbl3 hb3
          go_wp2_with fail
          clear c0 c1 c2 c3
          go_roundw
          case rel => exact ⟨j + 1, i, m, by omega, by go_num, rfl, by omega, hml'.out, by rw [hno.out]; exact hmt'.out, hd1'.out, hm3'.out, hst3.out⟩
          case measure => simp [intOf]; omega
      · obtain rfl : j = l.length := by omega
        obtain ⟨W5, hclr, ho5, hg5⟩ := hm'.out.cut (P := Tryz.prog) (fun _ => rfl) (i := i) (by omega) (t := 28) Tryz.underlying28 zeroHold rfl (by simp [Value.cells, Value.oneCell'])
        have hfin := Lib.hid (show m.take i = l.filter fun x => !del x by rw [hmt'.out, List.take_length])
        have ho5' := Lib.hid ho5
        have hst5 := Lib.hid (hst'.out.trans (.of_grown hg5 fun k hk => hob.out.trans hk))
        have hi1 : (i : Int) ≤ (l.length : Int) := by omega
        have hcp := hcap.out
        have hi2 : i ≤ c := by omega
        have hi3 : ¬ c = i := by omega
        have hi4 : i ≤ l.length := by omega
        clear ho5 hg5 hm' hst'
        go_wp2_with fail
        go_ret
        exact ⟨.slice (some ⟨g, 0, none⟩) i c, rfl, by rw [← hfin.out]; exact ho5'.out, hst5.out, rfl⟩
theorem infoMove4 : (Tryz.prog.info? 48).map (·.size) = some 4 := by kernel_rfl
set_option maxHeartbeats 4000000 in
set_option maxRecDepth 100000 in
theorem delFuncMove (w : World) (base : Nat) (v : Value) (l : List Move) (gf : FuncId) (lb : Array Value) (del : Move → Bool) (eg : Enters Tryz.prog gf) (hown : Own cMove 4 48 w base v l) (hn : l.length ≤ 1000000)
    (hf : ∀ k, k < l.length → ∀ W, Step (fun q => v.ownBlock = some q) w W → Calls Tryz.prog gf (#[vMove (moveAt l k)] ++ lb) W fun e W' => e = .returned (.bool (del (moveAt l k))) ∧ Below W.heap.size W W') :
    Calls Tryz.prog 116 #[v, .func (.func gf) #[] lb] w fun e w' => ∃ v', e = .returned v' ∧ Own cMove 4 48 w' base v' (l.filter fun x => !del x) ∧ Step (fun q => v.ownBlock = some q) w w' ∧ v'.ownBlock = v.ownBlock := by
  have hI := Lib.hid (indexFuncMove w v l gf lb del eg (hown.sl (by omega)) (fun k hk W hW => hf k hk W (.of_below hW)))
  have hF := Lib.hid hf
  have hl : l.length ≤ 140737488355232 := by omega
  have eg' : ∀ args w, Sem.run Tryz.prog (callFunc gf args) w = .ok (.enter gf args) w := eg
  obtain ⟨A, c, rfl⟩ := hown.isSlice
  have hO := Lib.hid hown
  clear hown hf
  go_enter Tryz.func116, Tryz.ntmps116
  go_wp2_with fail
  refine hI.out.mono ?_
  rintro e W1 ⟨rfl, hb1⟩
  cases ha : l.any del
  · have hid : idxOf del l = -1 := by unfold idxOf; rw [ha]; rfl
    have hfl := Lib.hid (show (l.filter fun x => !del x) = l from List.filter_eq_self.2 fun x hx => by
      have := List.any_eq_false.1 ha x hx
      simpa using this)
    rw [hid]
    clear hid ha
    go_wp2_with fail
    go_ret
    exact ⟨.slice A l.length c, rfl, by rw [hfl.out]; exact hO.out.below hb1, .of_below hb1, rfl⟩
  · obtain ⟨i0, hi0⟩ : ∃ i0, l.findIdx del = i0 := ⟨_, rfl⟩
    have hid : idxOf del l = (i0 : Int) := by unfold idxOf; rw [ha, hi0]; rfl
    obtain ⟨hlt0, htk0⟩ := take_idx ha
    rw [hi0] at hlt0 htk0
    obtain ⟨g, c', hv, hgb, hgl⟩ := hO.out.some_ (by omega)
    injection hv with e1 _ e2
    subst e1 e2
    rw [hid]
    have hne1 : ((i0 : Int) == -1) = false := by simp
    have hw0 : IntKind.i64.wrap ((i0 : Int) + 1) = (i0 : Int) + 1 := by rw [IntKind.wrap_i64]; omega
    have hob := Lib.hid (show (Value.slice (some ⟨g, 0, none⟩) l.length c).ownBlock = some g from rfl)
    have htk := Lib.hid htk0
    have hcap := Lib.hid (show l.length ≤ c ∧ c ≤ 9223372036854775807 from by
      obtain ⟨g2, c2, cur, e1, _, _, h2, h3, _⟩ := hO.out.row (by omega)
      injection e1 with _ _ e2
      subst e2
      unfold maxLen at h3
      exact ⟨h2, by omega⟩)
    clear hid ha hi0 htk0
    go_wp2_with fail
    clear hw0 hne1
    go_loopw [6, 5, 7] (fun a b _ wr => ∃ (j i : Nat) (m : List Move), j ≤ l.length ∧ a = .int .i64 j ∧ b = .int .i64 i ∧ i < j ∧ m.length = l.length ∧ m.take i = ((l.take j).filter fun x => !del x) ∧ m.drop j = l.drop j ∧ Own cMove 4 48 wr base (.slice (some ⟨g, 0, none⟩) l.length c) m ∧
      Step (fun q => (Value.slice (some ⟨g, 0, none⟩) l.length c).ownBlock = some q) w wr) (fun a _ _ _ => l.length - (intOf a).toNat)
    case atStart =>
      exact ⟨i0 + 1, i0, l, by omega, by go_num, rfl, by omega, rfl, htk.out.symm, rfl, hO.out.below hb1, .of_below hb1⟩
    case round =>
      obtain ⟨j, i, m, hj, rfl, rfl, hij, hml, hmt, hmd, hm, hst⟩ := hrel
      have hmt' := Lib.hid hmt
      have hmd' := Lib.hid hmd
      have hm' := Lib.hid hm
      have hst' := Lib.hid hst
      clear hmt hmd hm hst htk
      by_cases hlt : j < l.length
      · have hji : (j : Int) < (l.length : Int) := by omega
        have hii : (i : Int) < (l.length : Int) := by omega
        have hjm : j < m.length := by omega
        have hmj : m[j] = moveAt l j := by
          have h1 : (m.drop j)[0]? = (l.drop j)[0]? := by rw [hmd'.out]
          rw [List.getElem?_drop, List.getElem?_drop, Nat.add_zero, List.getElem?_eq_getElem hjm, List.getElem?_eq_getElem hlt] at h1
          injection h1 with h1
          rw [h1, moveAt_eq hlt]
        obtain ⟨g1, c1, cur, e1, _, hblk, hcell⟩ := hm'.out.at (fun _ => rfl) hjm
        injection e1 with e1 e2 e3
        injection e1 with e1
        injection e1 with e1
        subst e1
        clear e2 e3
        rw [hmj] at hcell
        clear hmj
        have hml' := Lib.hid hml
        clear hml hjm
        have d0 : wr.cell? ⟨g, j * 4, none⟩ = _ := hcell 0 _ rfl
        have d1 := hcell 1 _ rfl
        have d2 := hcell 2 _ rfl
        have d3 := hcell 3 _ rfl
        have hsa : Step (fun q => (Value.slice (some ⟨g, 0, none⟩) l.length c).ownBlock = some q) w (wr.alloc (.cells #[.int .i64 (moveAt l j).good, .int .i64 (moveAt l j).src, .int .i64 (moveAt l j).dst, .int .i64 (moveAt l j).n] 48)) := hst'.out.trans (.of_below ((Below.refl _ _).alloc (Nat.le_refl _) _))
        have hbl := Lib.hid (Blk.new wr 48 #[.int .i64 (moveAt l j).good, .int .i64 (moveAt l j).src, .int .i64 (moveAt l j).dst, .int .i64 (moveAt l j).n])
        have hma := Lib.hid (hm'.out.alloc (.cells #[.int .i64 (moveAt l j).good, .int .i64 (moveAt l j).src, .int .i64 (moveAt l j).dst, .int .i64 (moveAt l j).n] 48))
        clear hcell hblk
        go_wp2_with fail
        clear d0 d1 d2 d3
        refine (hF.out j hlt _ hsa).mono ?_
        rintro e W3 ⟨rfl, hb3⟩
        have hm3 := hma.out.below hb3
        have hbl3 := hbl.out.below hb3 hbl.out.lt
        have hst3 := Lib.hid (hsa.trans (.of_below hb3))
        have c0 := hbl3.cell (j := 0) rfl
        have c1 := hbl3.cell (j := 1) rfl
        have c2 := hbl3.cell (j := 2) rfl
        have c3 := hbl3.cell (j := 3) rfl
        have hdj : del l[j] = del (moveAt l j) := by rw [moveAt_eq hlt]
        have hd1 : m.drop (j + 1) = l.drop (j + 1) := by rw [← List.drop_drop, hmd'.out, List.drop_drop]
        have hd1' := Lib.hid hd1
        clear hsa hma hbl hm' hst' hd1
        cases hd : del (moveAt l j)
        · have hyes := Lib.hid (take_filter_yes hlt (fun x => !del x) (by rw [hdj, hd]; rfl))
          have hw1 : IntKind.i64.wrap ((i : Int) + 1) = (i : Int) + 1 := by rw [IntKind.wrap_i64]; omega
          clear hd hdj
          go_wp2_with (refine wpList_put rfl (.tmp 33) (.tmp 32) 48 rfl rfl hm3 (fun _ => rfl) (i := i) (by rw [hml'.out]; omega) (moveAt l j) infoMove4 (oneMove _) rfl rfl (fun w4 ho4 hg4 => ?_); refine Hid.out ?_)
          unfold Hid
          have ho4' := Lib.hid ho4
          have hst4 := Lib.hid (hst3.out.trans (.of_grown hg4 fun k hk => hob.out.trans hk))
          clear c0 c1 c2 c3 hm3 hbl3 ho4 hg4 hb3
          go_wp2_with fail
          go_roundw
          case rel =>
            refine ⟨j + 1, i + 1, m.set i (moveAt l j), by omega, by go_num, by go_num, by omega, by rw [List.length_set]; exact hml'.out, ?_, ?_, ho4'.out, hst4.out⟩
            · rw [hyes.out, ← hmt'.out, moveAt_eq hlt, List.take_succ_eq_append_getElem (by rw [List.length_set, hml'.out]; omega), List.getElem_set_self, List.take_set_of_le (Nat.le_refl _)]
            · rw [List.drop_set_of_lt (by omega), hd1'.out]
          case measure => simp [intOf]; omega
        · have hno := Lib.hid (take_filter_no hlt (fun x => !del x) (by rw [hdj, hd]; rfl))
          have hm3' := Lib.hid hm3
          clear hd hdj hm3 hbl3 hb3
          go_wp2_with fail
          clear c0 c1 c2 c3
          go_roundw
          case rel => exact ⟨j + 1, i, m, by omega, by go_num, rfl, by omega, hml'.out, by rw [hno.out]; exact hmt'.out, hd1'.out, hm3'.out, hst3.out⟩
          case measure => simp [intOf]; omega
      · obtain rfl : j = l.length := by omega
        obtain ⟨W5, hclr, ho5, hg5⟩ := hm'.out.cut (P := Tryz.prog) (fun _ => rfl) (i := i) (by omega) (t := 29) Tryz.underlying29 zeroMove rfl (by simp [Value.cells, Value.oneCell'])
        have hfin := Lib.hid (show m.take i = l.filter fun x => !del x by rw [hmt'.out, List.take_length])
        have ho5' := Lib.hid ho5
        have hst5 := Lib.hid (hst'.out.trans (.of_grown hg5 fun k hk => hob.out.trans hk))
        have hi1 : (i : Int) ≤ (l.length : Int) := by omega
        have hcp := hcap.out
        have hi2 : i ≤ c := by omega
        have hi3 : ¬ c = i := by omega
        have hi4 : i ≤ l.length := by omega
        clear ho5 hg5 hm' hst'
        go_wp2_with fail
        go_ret
        exact ⟨.slice (some ⟨g, 0, none⟩) i c, rfl, by rw [← hfin.out]; exact ho5'.out, hst5.out, rfl⟩
end Wh
namespace Wh
open Go Go.RowKit Go.Shelf Go.Proofs
attribute [local go_sem] run_indexAt_letter evL_tmp evL_const evL_func

theorem off_apart {a b : Option Nat} (h : a = none ∨ a ≠ b) : ∀ k, a = some k → ¬ b = some k := by
  rintro k rfl h2
  rcases h with h | h
  · cases h
  · exact h h2.symm
/-- Another slice of holds, when the old one's block may have been written. -/
theorem OwnSt.stepHolds {w w' : World} {base : Nat} {V : SV} {s : State} (h : OwnSt w base V s) (hs : Step (fun q => V.holds.ownBlock = some q) w w') {v : Value} {l : List Hold} (hv : Own cHold 4 46 w' base v l) : OwnSt w' base { V with holds := v } { s with holds := l } :=
  ⟨h.on.step hs (off_apart (h.on.apart h.holds (by decide))), h.rlen, fun b hb => (h.row b hb).step hs (off_apart ((h.row b hb).apart h.holds (by decide))), h.orders.step hs (off_apart (h.orders.apart h.holds (by decide))), h.llen, fun o ho => (h.line o ho).step hs (off_apart ((h.line o ho).apart h.holds (by decide))),
    hv, h.moves.step hs (off_apart (h.moves.apart h.holds (by decide))), h.inn.step hs (off_apart (h.inn.apart h.holds (by decide))), h.out.step hs (off_apart (h.out.apart h.holds (by decide))), h.fixed.step hs (off_apart (h.fixed.apart h.holds (by decide))), h.apart, h.apartl⟩

end Wh
