/- Texts of the claim, joined: MemS, BoxK, PlainT, PlainW, CountFb, HoldsD. -/
import Derived.Laws.Tables
import Derived.Test.YtfhfkijmebhgmaaGreatQ03
import Derived.Test.YtfhfkijmebhgmaaGreatQ19
import Derived.Test.YtfhfkijmebhgmaaGreatQ12
import Derived.Test.YtfhfkijmebhgmaaGreatQ13
namespace Wh
open Go Go.RowKit

section
variable {P : Program}
theorem run_storeVar_blk (w : World) (g o : Nat) (e ty : TypeId) (cur cs : List Value) (hg : Blk w g e cur) (hfit : o + cs.length ≤ cur.length) (hi : (P.info? ty).map (·.size) = some cs.length) (h1 : ∀ v ∈ cs, v.oneCell' = true) :
    (storeVar ty ⟨g, o, none⟩ (.agg cs.toArray)).run P w = .ok () (w.setRow g (spl cur o cs).toArray) := by
  have := run_storeCells_at P g o e cs 0 cur.toArray w hg (by simpa using hfit) h1
  cases hq : P.info? ty with
  | none => simp [hq] at hi
  | some i =>
    have hs : i.size = cs.length := by simpa [hq] using hi
    simp only [Nat.add_zero] at this
    simp [storeVar, Go.sizeOf, typeInfo, hq, Value.cells, hs, this, spl]
theorem flat_put {α : Type} (enc : α → List Value) (k : Nat) (hk : ∀ x, (enc x).length = k) {l : List α} {i : Nat} (hi : i < l.length) (y : α) {cur : List Value} (hc : l.length * k ≤ cur.length) (ht : cur.take (l.length * k) = l.flatMap enc) :
    (spl cur (i * k) (enc y)).take (l.length * k) = (l.set i y).flatMap enc := by
  have h1 : (i + 1) * k ≤ l.length * k := Nat.mul_le_mul_right _ (by omega)
  have h2 : i * k + k = (i + 1) * k := by rw [Nat.add_mul]; omega
  have e1 : l.set i y = l.take i ++ [y] ++ l.drop (i + 1) := by
    rw [List.set_eq_take_append_cons_drop, if_pos hi, List.append_assoc]
    rfl
  rw [e1, List.flatMap_append, List.flatMap_append, List.flatMap_singleton, ← flat_take enc k hk, ← flat_drop enc k hk, ← ht]
  have e2 : (cur.take (i * k) ++ enc y).length = (i + 1) * k := by rw [List.length_append, List.length_take, hk, Nat.min_eq_left (by omega), h2]
  unfold spl
  rw [hk, h2, List.take_append, List.take_of_length_le (by rw [e2]; exact h1), e2, List.take_take, Nat.min_eq_left (by omega), List.drop_take]
theorem Own.put {α : Type} {enc : α → List Value} {size : Nat} {e : TypeId} {w : World} {base g n c : Nat} {l : List α} (h : Own enc size e w base (.slice (some ⟨g, 0, none⟩) n c) l) (hk : ∀ x, (enc x).length = size) {i : Nat} (hi : i < l.length) (y : α)
    {ty : TypeId} (hty : (P.info? ty).map (·.size) = some size) (h1 : ∀ v ∈ enc y, v.oneCell' = true) :
    ∃ w', (storeVar ty ⟨g, i * size, none⟩ (.agg (enc y).toArray)).run P w = .ok () w' ∧ Own enc size e w' base (.slice (some ⟨g, 0, none⟩) n c) (l.set i y) ∧ w.grownBy w' (some g) := by
  obtain ⟨g', cap, cur, e1, hb, hg, h2, h3, h4, h5⟩ := h.row (by omega)
  injection e1 with e1 e2 e3
  injection e1 with e1
  injection e1 with e1
  subst e1 e2 e3
  have hle : l.length * size ≤ cur.length := by rw [h4]; exact Nat.mul_le_mul_right _ h2
  have hfit : i * size + (enc y).length ≤ cur.length := by
    rw [hk]
    have : (i + 1) * size ≤ l.length * size := Nat.mul_le_mul_right _ (by omega)
    rw [Nat.add_mul] at this
    omega
  refine ⟨_, run_storeVar_blk w g (i * size) e ty cur (enc y) hg hfit (by rw [hk]; exact hty) h1, ?_, grown_row w g _⟩
  have := Own.of_row (l := l.set i y) hk hb (hg.row (spl cur (i * size) (enc y))) (by rw [List.length_set]; exact h2) h3 (by rw [spl_length hfit]; exact h4) (by rw [List.length_set]; exact flat_put enc size hk hi y hle h5)
  rwa [List.length_set] at this
/-- 's[i] = x', a struct. -/
theorem wpList_put {α : Type} {enc : α → List Value} {size : Nat} {e : TypeId} {w : World} {base g n c : Nat} {l : List α} {ops : Array Oper} {rest : List Oper} {o : Oper} {a : Go.Act} {Q : Exit → Go.Act → World → Prop} (hgd : o.guard = none) (x z : Operand) (ty : TypeId) (ho : o.op = .store ty x z) (hn : o.dst = none)
    (h : Own enc size e w base (.slice (some ⟨g, 0, none⟩) n c) l) (hk : ∀ x, (enc x).length = size) {i : Nat} (hi : i < l.length) (y : α) (hty : (P.info? ty).map (·.size) = some size) (h1 : ∀ v ∈ enc y, v.oneCell' = true)
    (hx : a.eval x = .pointer (some ⟨g, i * size, none⟩)) (hy : a.eval z = .agg (enc y).toArray)
    (hK : ∀ w', Own enc size e w' base (.slice (some ⟨g, 0, none⟩) n c) (l.set i y) → w.grownBy w' (some g) → wpList P ops Q rest a w') : wpList P ops Q (o :: rest) a w :=
  wpList_plain hgd fun K hK' => by
    obtain ⟨w', hr, h2, h3⟩ := h.put hk hi y hty h1
    unfold Oper.wp execOp
    simp only [ho, hx, hy, Instr.storeAt, Instr.sureAddr, Sem.run_bind, Sem.run_pure, Result.andThen_ok, hr]
    have hk := hK' (a.put o.dst undef) w' (by rw [hn]; exact hK _ h2 h3)
    exact hk
/-- The row's head alone, what lies behind it cleared. -/
theorem Own.cut {α : Type} {enc : α → List Value} {size : Nat} {e : TypeId} {w : World} {base g n c : Nat} {l : List α} (h : Own enc size e w base (.slice (some ⟨g, 0, none⟩) n c) l) (hk : ∀ x, (enc x).length = size) {i : Nat} (hi : i < l.length)
    {t : TypeId} {z : Value} (ht : P.underlying t = some (.slice e)) (hv : ∀ w, (zeroValue e).run P w = .ok z w) (hz : z.cells.size = size) (h1 : ∀ v ∈ z.cells, v.oneCell' = true) :
    ∃ w', (∀ ty c', (Builtin.clear_ #[t] ty #[.slice (some ⟨g, i * size, none⟩) (n - i) c']).run P w = .ok (.tuple #[]) w') ∧ Own enc size e w' base (.slice (some ⟨g, 0, none⟩) i c) (l.take i) ∧ w.grownBy w' (some g) := by
  obtain ⟨g', cap, cur, e1, hb, hg, h2, h3, h4, h5⟩ := h.row (by omega)
  injection e1 with e1 e2 e3
  injection e1 with e1
  injection e1 with e1
  subst e1 e2 e3
  have hle : l.length * size ≤ cur.length := by rw [h4]; exact Nat.mul_le_mul_right _ h2
  have hsp : i * size + (l.length - i) * size = l.length * size := by rw [← Nat.add_mul]; congr 1; omega
  have hzl : (Builtin.zeroCells z.cells (l.length - i)).toList.length = (l.length - i) * size := by rw [Array.length_toList, zeroCells_length, hz]
  refine ⟨_, fun ty c' => run_clear_blk (P := P) w t e ty z ht hv h1 g (i * size) (l.length - i) c' cur hg (by omega) (by rw [hz]; omega), ?_, grown_row w g _⟩
  have hlen : (l.take i).length = i := by rw [List.length_take]; omega
  have := Own.of_row (l := l.take i) hk hb (hg.row (spl cur (i * size) (Builtin.zeroCells z.cells (l.length - i)).toList)) (by rw [hlen]; omega) h3 (by rw [spl_length (by rw [hzl]; omega)]; exact h4) (by
    rw [hlen, spl_lo (by omega), ← flat_take enc size hk, ← h5, List.take_take, Nat.min_eq_left (by omega)])
  rwa [hlen] at this
end
end Wh
namespace Wh
open Go Go.RowKit Go.Proofs

namespace OwnSt
variable {w w' : World} {base : Nat} {V : SV} {s : State}
/-- The moves' block was written. -/
theorem wroteMoves (h : OwnSt w base V s) (hg : w.grownBy w' V.moves.ownBlock) {v : Value} {l : List Move} (hv : Own cMove 4 48 w' base v l) : OwnSt w' base { V with moves := v } { s with moves := l } := h.newMoves hg hv
end OwnSt

section
variable {ops : Array Oper} {rest : List Oper} {o : Oper} {a : Act} {w : World} {Q : Exit → Act → World → Prop} {base b : Nat} {t : TypeId} {cs : List Value} {V : SV} {s : State}
/-- A number of a shelf. -/
theorem wp_st_on (hgd : o.guard = none) (x z : Operand) (ho : o.op = .store 3 x z) (hn : o.dst = none) {i g gr n c : Nat} {q : Int} (hB : Bx w base b t cs V s) (hi : i < s.on.length) (hg : g < (rowAt s.on i).length)
    (hv : V.row i = .slice (some ⟨gr, 0, none⟩) n c) (hx : a.eval x = .pointer (some ⟨gr, g, none⟩)) (hz : a.eval z = .int .i64 q)
    (h : ∀ w', Bx w' base b t cs V { s with on := setCell s.on i g q } → Step (· = gr) w w' → wpList Tryz.prog ops Q rest a w') : wpList Tryz.prog ops Q (o :: rest) a w :=
  wpList_plain hgd fun K hK => by
    obtain ⟨_, _, _, g', c', cur, _, _, _, _, e1, _, e3, f0⟩ := hB.own.onAt hi hg
    rw [hv] at e1
    injection e1 with e1
    injection e1 with e1
    injection e1 with e1
    subst e1
    obtain ⟨h1, h2⟩ := hB.own.setOn hi hg hv q
    have h3 := h _ ⟨hB.off e3 hB.ty.h2 h2, h1, hB.ty⟩ (.of_grown h2 fun k hk => by injection hk with hk; exact hk.symm)
    have hf := e3.frozen g
    clear h hB h1 h2 e3
    unfold Oper.wp
    simp only [execOp, ho, hx, hz]
    go_simp
    exact hK _ _ h3
theorem wp_st_fixed (hgd : o.guard = none) (x z : Operand) (ho : o.op = .store 3 x z) (hn : o.dst = none) {g gr n c : Nat} {q : Int} (hB : Bx w base b t cs V s) (hg : g < s.fixed.length)
    (hv : V.fixed = .slice (some ⟨gr, 0, none⟩) n c) (hx : a.eval x = .pointer (some ⟨gr, g, none⟩)) (hz : a.eval z = .int .i64 q)
    (h : ∀ w', Bx w' base b t cs V { s with fixed := s.fixed.set g q } → Step (· = gr) w w' → wpList Tryz.prog ops Q rest a w') : wpList Tryz.prog ops Q (o :: rest) a w :=
  wpList_plain hgd fun K hK => by
    obtain ⟨g', c', cur, e1, _, e3, f0⟩ := OwnSt.intAtOwn hB.own.fixed hg
    rw [hv] at e1
    injection e1 with e1
    injection e1 with e1
    injection e1 with e1
    subst e1
    obtain ⟨h1, h2⟩ := hB.own.setFixed hg hv q
    have h3 := h _ ⟨hB.off e3 hB.ty.h2 h2, h1, hB.ty⟩ (.of_grown h2 fun k hk => by injection hk with hk; exact hk.symm)
    have hf := e3.frozen g
    clear h hB h1 h2 e3
    unfold Oper.wp
    simp only [execOp, ho, hx, hz]
    go_simp
    exact hK _ _ h3
end
end Wh
namespace Wh

section
variable {p : Plan} {s : State} {b g : Nat} {seen t : Int}
theorem cutHd_early (hs : Sane p s) (ht : t ≤ goingOf s.moves b g) : cutHd s b g t = s.holds := Cutter.rest_none (hd_pos hs b g) (by omega)
theorem cutOrders_congr {t' : Int} (h : ∀ o k : Int, cutN s b g t' o k = cutN s b g t o k) : cutOrders s b g t' = cutOrders s b g t := by
  unfold cutOrders
  simp only [h]
theorem mv_none {l : List Move} (h : ∀ x ∈ l, ¬ (x.src = (b : Int) ∧ x.good = (g : Int))) : goingOf l b g = 0 := by
  unfold goingOf
  induction l with
  | nil => rfl
  | cons x r ih =>
    rw [List.map_cons, List.sum_cons, ih fun y hy => h y (List.mem_cons_of_mem _ hy)]
    unfold fromN
    rw [if_neg (h x (List.mem_cons_self ..))]
    rfl
/-- A piece of a move. -/
theorem piece_move (hs : Sane p s) (ht : 0 ≤ t) {k : Nat} (hk : k < (cutMv s b g t).length) (h1 : (moveAt (cutMv s b g t) k).src = b ∧ (moveAt (cutMv s b g t) k).good = g) (h2 : ∀ j, k < j → j < (cutMv s b g t).length → ¬ ((moveAt (cutMv s b g t) j).src = b ∧ (moveAt (cutMv s b g t) j).good = g)) :
    cutS s b g seen (t + 1) = { cutS s b g seen t with moves := if (moveAt (cutMv s b g t) k).n = 1 then (cutMv s b g t).eraseIdx k else (cutMv s b g t).set k { moveAt (cutMv s b g t) k with n := (moveAt (cutMv s b g t) k).n - 1 } } ∧ (∀ o k : Int, cutN s b g (t + 1) o k = cutN s b g t o k) := by
  have hp := mv_pos hs b g
  have hall := Cutter.rest_all hp t
  have hpos : 0 < (mvC b g).all (cutMv s b g t) := by
    have := Cutter.any_all (Cutter.rest_pos hp t)
    have hany : ((mvC b g).rest s.moves t).any (mvC b g).is = true := List.any_eq_true.2 ⟨(cutMv s b g t)[k], List.getElem_mem hk, by rw [mv_is, ← moveAt_eq hk]; exact h1⟩
    rw [hany] at this
    exact of_decide_eq_true this.symm
  change (mvC b g).all (cutMv s b g t) = _ at hall
  rw [mv_all] at hall
  rw [mv_all] at hpos
  have hm := goingOf_nonneg hs b g
  have hlt : t + 1 ≤ goingOf s.moves b g := by rw [mv_all] at hall; omega
  have e1 : cutMv s b g (t + 1) = (mvC b g).dec (cutMv s b g t) := Cutter.rest_succ hp ht (by rw [mv_all]; exact hlt)
  have e2 := Cutter.dec_at (C := mvC b g) hk (by rw [mv_is, ← moveAt_eq hk]; exact h1) (fun j hj hkj => by
    cases hi : (mvC b g).is (cutMv s b g t)[j]
    · rfl
    · rw [mv_is, ← moveAt_eq hj] at hi
      exact absurd hi (h2 j hkj hj))
  rw [← moveAt_eq hk] at e2
  have e3 : cutHd s b g (t + 1) = cutHd s b g t := by rw [cutHd_early hs hlt, cutHd_early hs (by omega)]
  have e4 : ∀ o k : Int, cutN s b g (t + 1) o k = cutN s b g t o k := fun o k => by unfold cutN; rw [e3]
  refine ⟨?_, e4⟩
  refine State.ext' rfl (cutOrders_congr e4) e3 ?_ rfl rfl rfl
  show cutMv s b g (t + 1) = _
  rw [e1, e2]
  rfl
theorem keptAt_hold {l : List Hold} (hl : holdsOk l = true) {k : Nat} (hk : k < l.length) : keptAt l (hold l k).order (hold l k).line (hold l k).bin = (hold l k).n := by
  obtain ⟨h1, h2⟩ := holdsOk_iff.1 hl
  rw [hold_get hk]
  exact keptAt_mem h1 h2 (List.getElem_mem hk)
/-- A hold with another number, where it stands. -/
theorem with_at {l : List Hold} (hl : holdsOk l = true) {k : Nat} (hk : k < l.length) (m : Int) : withHold l { hold l k with n := m } = if m = 0 then l.eraseIdx k else l.set k { hold l k with n := m } := by
  have hp : pos l (hold l k) = k := pos_eq (Nat.le_of_lt hk) (fun i hi => ok_lt hl hi hk) (fun _ => Int.le_of_eq (ord_zero.2 ⟨rfl, rfl, rfl⟩).symm)
  have hf : found l (hold l k) = true := found_iff.2 ⟨by rw [hp]; exact hk, by rw [hp]; exact ord_zero.2 ⟨rfl, rfl, rfl⟩⟩
  have hkey := ok_key hl hk
  split
  · rename_i h0
    rw [with_less hl (h := { hold l k with n := m }) hkey h0 (by rw [found_n]; exact hf), pos_n, hp]
  · rename_i h0
    rw [with_more hl (h := { hold l k with n := m }) hkey h0 (by rw [found_n]; exact hf), pos_n, hp]
/-- A piece of a hold. -/
theorem piece_hold (hs : Sane p s) (ht : 0 ≤ t) (h0 : ∀ x ∈ cutMv s b g t, ¬ (x.src = (b : Int) ∧ x.good = (g : Int))) {k : Nat} (hk : k < (cutHd s b g t).length)
    (h1 : (hdC s b g).is (hold (cutHd s b g t) k) = true) (h2 : ∀ j, k < j → j < (cutHd s b g t).length → (hdC s b g).is (hold (cutHd s b g t) j) = false) {i j : Nat} (hi : (hold (cutHd s b g t) k).order = i) (hj : (hold (cutHd s b g t) k).line = j) (hio : i < s.orders.length) (hjl : j < (s.order i).lines.length) :
    cutS s b g seen (t + 1) = ({ cutS s b g seen t with holds := withHold (cutHd s b g t) { hold (cutHd s b g t) k with n := (hold (cutHd s b g t) k).n - 1 } } : State).setLine i j { (cutS s b g seen t).line i j with back := ((cutS s b g seen t).line i j).back + 1 } ∧
    ∀ o k : Nat, cutN s b g (t + 1) o k = cutN s b g t o k + if o = i ∧ k = j then 1 else 0 := by
  have hok := cutHd_ok hs b g t
  have hmall := Cutter.rest_all (mv_pos hs b g) t
  change (mvC b g).all (cutMv s b g t) = _ at hmall
  rw [mv_all, mv_all, mv_none h0] at hmall
  have hm := goingOf_nonneg hs b g
  have hge : goingOf s.moves b g ≤ t := by omega
  have hp := hd_pos hs b g
  have hall := Cutter.rest_all hp (t - goingOf s.moves b g)
  have hpos : 0 < (hdC s b g).all (cutHd s b g t) := by
    have := Cutter.any_all (Cutter.rest_pos hp (t - goingOf s.moves b g))
    have hany : ((hdC s b g).rest s.holds (t - goingOf s.moves b g)).any (hdC s b g).is = true := List.any_eq_true.2 ⟨(cutHd s b g t)[k], List.getElem_mem hk, by rw [← hold_get hk]; exact h1⟩
    rw [hany] at this
    exact of_decide_eq_true this.symm
  change (hdC s b g).all (cutHd s b g t) = _ at hall
  have e0 : t + 1 - goingOf s.moves b g = (t - goingOf s.moves b g) + 1 := by omega
  have e1 : cutHd s b g (t + 1) = (hdC s b g).dec (cutHd s b g t) := by
    show (hdC s b g).rest s.holds (t + 1 - goingOf s.moves b g) = _
    rw [e0]
    exact Cutter.rest_succ hp (by omega) (by omega)
  have e2 := Cutter.dec_at (C := hdC s b g) hk (by rw [← hold_get hk]; exact h1) (fun j hj hkj => by rw [← hold_get hj]; exact h2 j hkj hj)
  rw [← hold_get hk] at e2
  have e3 : cutHd s b g (t + 1) = withHold (cutHd s b g t) { hold (cutHd s b g t) k with n := (hold (cutHd s b g t) k).n - 1 } := by
    rw [e1, e2, with_at hok hk]
    show (if (hold (cutHd s b g t) k).n = 1 then _ else _) = _
    by_cases hz : (hold (cutHd s b g t) k).n = 1
    · rw [if_pos hz, if_pos (by omega)]
    · rw [if_neg hz, if_neg (by omega)]
      rfl
  have e4 : cutMv s b g (t + 1) = cutMv s b g t := by
    show ((mvC b g).cut s.moves (t + 1)).1.filter _ = ((mvC b g).cut s.moves t).1.filter _
    rw [Cutter.cut_full (fun x hx => by have := mv_pos hs b g x hx; omega) (by rw [mv_all]; omega), Cutter.cut_full (fun x hx => by have := mv_pos hs b g x hx; omega) (by rw [mv_all]; omega)]
  have hkey := ok_key hok hk
  have hbin := (hd_is.1 h1).1
  have hn := ok_n hok hk
  have e5 : ∀ o k' : Nat, cutN s b g (t + 1) o k' = cutN s b g t o k' + if o = i ∧ k' = j then 1 else 0 := fun o k' => by
    unfold cutN
    rw [e3, keptAt_with (h := { hold (cutHd s b g t) k with n := (hold (cutHd s b g t) k).n - 1 }) hok hkey (by simp only; omega)]
    have hkh := keptAt_hold hok hk
    simp only
    rw [hi, hj, hbin] at hkh ⊢
    by_cases hq : o = i ∧ k' = j
    · obtain ⟨rfl, rfl⟩ := hq
      rw [if_pos ⟨rfl, rfl, rfl⟩, if_pos ⟨rfl, rfl⟩, hkh]
      omega
    · rw [if_neg (by omega), if_neg hq]
      omega
  refine ⟨?_, e5⟩
  have hlen : (cutS s b g seen t).orders.length = s.orders.length := cut_len
  refine State.ext' rfl ?_ e3 e4 rfl rfl rfl
  show cutOrders s b g (t + 1) = (cutOrders s b g t).set i { (cutS s b g seen t).order i with lines := ((cutS s b g seen t).order i).lines.set j { (cutS s b g seen t).line i j with back := ((cutS s b g seen t).line i j).back + 1 } }
  rw [cut_line hio hjl, cut_order i hio]
  unfold cutOrders
  apply List.ext_getElem
  · simp
  · intro a ha1 ha2
    have ha : a < s.orders.length := by simpa using ha1
    rw [List.getElem_mapIdx, List.getElem_set]
    have ea : s.order a = s.orders[a] := orderAt_eq ha
    by_cases hai : i = a
    · subst hai
      rw [if_pos rfl, ea]
      simp only [Order.mk.injEq, true_and]
      rw [ea] at hjl
      apply List.ext_getElem
      · simp
      · intro c hc1 hc2
        have hc : c < s.orders[i].lines.length := by simpa using hc1
        rw [List.getElem_mapIdx, List.getElem_set, e5]
        by_cases hcj : j = c
        · subst hcj
          have el : s.line i j = s.orders[i].lines[j] := by unfold State.line; rw [ea, lineAt_eq hc]
          rw [if_pos rfl, if_pos ⟨rfl, rfl⟩, el]
          simp only [Line.mk.injEq, true_and]
          omega
        · rw [if_neg hcj, if_neg (by omega), List.getElem_mapIdx, Int.add_zero]
    · rw [if_neg hai, List.getElem_mapIdx]
      simp only [Order.mk.injEq, true_and]
      apply List.ext_getElem
      · simp
      · intro c hc1 hc2
        rw [List.getElem_mapIdx, List.getElem_mapIdx, e5, if_neg (by omega), Int.add_zero]
/-- Where nothing is to move there any more, something is held. -/
theorem piece_some (hs : Sane p s) (ht : 0 ≤ t) (hlt : t < bound s b g) (h0 : ∀ x ∈ cutMv s b g t, ¬ (x.src = (b : Int) ∧ x.good = (g : Int))) : ((cutHd s b g t).any (hdC s b g).is) = true := by
  have hmall := Cutter.rest_all (mv_pos hs b g) t
  change (mvC b g).all (cutMv s b g t) = _ at hmall
  rw [mv_all, mv_all, mv_none h0] at hmall
  have hp := hd_pos hs b g
  have hm := goingOf_nonneg hs b g
  have hall := Cutter.rest_all hp (t - goingOf s.moves b g)
  have := Cutter.any_all (Cutter.rest_pos hp (t - goingOf s.moves b g))
  show ((hdC s b g).rest s.holds (t - goingOf s.moves b g)).any (hdC s b g).is = true
  rw [this, hall, hd_all]
  unfold bound heldIn at hlt
  exact decide_eq_true (by omega)
end
end Wh
namespace Wh
section
variable {p : Plan} {s : State} {b g : Nat} {seen : Int}
theorem cut_sane (h : Right p s) (f : Counts p s b g seen) (v : Int) : Sane p (cutS s b g seen v) := by
  have hs := h.sane
  have hbl : b < s.on.length := by rw [hs.onLen]; exact f.hb
  have hgl : g < (rowAt s.on b).length := by rw [hs.rowLen f.hb]; exact f.hg
  have hfl : g < s.fixed.length := by rw [hs.fixed.1]; exact f.hg
  refine Sane.of ?_ (by rw [cut_len]; exact hs.orders4) ?_ (fun o ho => ?_) (fun o k ho hk => ?_) (cutHd_ok hs b g v) (fun x hx => ?_) (fun x hx => ?_)
    (formed_iff.1 hs.form).2.2.2.2.1 (formed_iff.1 hs.form).2.2.2.2.2.1 (sumsOk_set (formed_iff.1 hs.form).2.2.2.2.2.2 hfl f.f0 f.f1)
  · exact checkShelf_zero.2 ⟨hs.plan, setCell_ok (checkShelf_zero.1 hs.shelf).2 ⟨f.s0, f.s1⟩ f.hb f.hg⟩
  · refine Nat.le_trans (Nat.le_trans (List.length_filter_le _ _) ?_) hs.moves8
    rw [Cutter.cut_length]
    exact Nat.le_refl _
  · rw [cut_len] at ho
    rw [cut_lines o ho, cut_kind o ho]
    exact ⟨hs.lines3 ho, hs.kind ho⟩
  · rw [cut_len] at ho
    rw [cut_lines o ho] at hk
    have hl := hs.line ho hk
    have h1 := (h.lineSum ho hk).1
    have h2 := cutN_range hs b g v o k
    have h3 := (kept_range hs.holds o k).1
    rw [cut_line ho hk, lineOk_iff]
    simp only
    refine ⟨hl.1, hl.2.1, hl.2.2.1, ?_⟩
    split at h1 <;> omega
  · obtain ⟨y, hy, e, _, _, _⟩ := Cutter.rest_mem (hd_pos hs b g) _ x hx
    have e' : x = { y with n := x.n } := e
    have h1 := holdIn_iff.1 (List.all_eq_true.1 (formed_iff.1 hs.form).2.2.1 y hy)
    obtain ⟨i, hi, rfl⟩ := List.getElem_of_mem hy
    have h2 := hs.holdAt hi
    rw [hold_get hi] at h2
    rw [e']
    exact holdIn_iff.2 ⟨by rw [cut_len]; exact h1.1, by rw [cut_lines _ (by show (s.holds[i]).order.toNat < _; omega)]; exact h1.2.1, h1.2.2⟩
  · obtain ⟨y, hy, e, a, a', _⟩ := Cutter.rest_mem (mv_pos hs b g) _ x hx
    have e' : x = { y with n := x.n } := e
    have h1 := moveOk_iff.1 (List.all_eq_true.1 (formed_iff.1 hs.form).2.2.2.1 y hy)
    change 1 ≤ x.n at a
    change x.n ≤ y.n at a'
    rw [e']
    exact moveOk_iff.2 ⟨h1.1, h1.2.1, h1.2.2.1, h1.2.2.2.1, a, by show x.n ≤ 200; omega⟩
/-- What is bound, piece by piece. -/
theorem cut_bound_at (h : Right p s) {t : Int} (h0 : 0 ≤ t) (h1 : t ≤ bound s b g) : bound (cutS s b g seen t) b g = bound s b g - t := cut_bound_same h.sane h0 h1
/-- A line's good is the same in both. -/
theorem cut_is {t : Int} {x : Hold} (ho : x.order.toNat < s.orders.length) (hk : x.line.toNat < (s.order x.order.toNat).lines.length) : (hdC (cutS s b g seen t) b g).is x = (hdC s b g).is x := by
  have e : ((cutS s b g seen t).line x.order.toNat x.line.toNat).good = (s.line x.order.toNat x.line.toNat).good := by rw [cut_line ho hk]
  cases h1 : (hdC s b g).is x
  · cases h2 : (hdC (cutS s b g seen t) b g).is x
    · rfl
    · rw [hd_is, e] at h2
      rw [hd_is.2 h2] at h1
      cases h1
  · rw [hd_is] at h1 ⊢
    rw [e]
    exact h1
end
end Wh
namespace Wh
open Go Go.RowKit Go.Shelf Go.Proofs

section
variable {ops : Array Oper} {rest : List Oper} {o : Oper} {a : Act} {w : World} {Q : Exit → Act → World → Prop} {base b : Nat} {t : TypeId} {cs : List Value} {V : SV} {s : State}
set_option maxHeartbeats 1000000 in
/-- A move's number. -/
theorem wp_st_moveN (hgd : o.guard = none) (x z : Operand) (ho : o.op = .store 3 x z) (hn : o.dst = none) {k gm n c : Nat} {q : Int} (hB : Bx w base b t cs V s) (hk : k < s.moves.length)
    (hv : V.moves = .slice (some ⟨gm, 0, none⟩) n c) (ht : 48 ≠ t) (hx : a.eval x = .pointer (some ⟨gm, k * 4 + 3, none⟩)) (hz : a.eval z = .int .i64 q)
    (h : ∀ w', Bx w' base b t cs V { s with moves := s.moves.set k { moveAt s.moves k with n := q } } → Step (· = gm) w w' → wpList Tryz.prog ops Q rest a w') : wpList Tryz.prog ops Q (o :: rest) a w :=
  wpList_plain hgd fun K hK => by
    obtain ⟨g', c', cur, e1, _, e3, f0, f1, f2, f3⟩ := hB.own.moveAt hk
    rw [hv] at e1
    injection e1 with e1
    injection e1 with e1
    injection e1 with e1
    subst e1
    have hm := hB.own.moves
    rw [hv] at hm
    obtain ⟨h1, h2⟩ := Own.store hm (fun _ => rfl) (i := k) hk (show 3 < 4 by omega) (y := { moveAt s.moves k with n := q }) (u := .int .i64 q) (by rw [moveAt_eq hk]; rfl)
    rw [← hv] at h1
    have h4 : OwnSt (w.setCell ⟨gm, k * 4 + 3, none⟩ (.int .i64 q)) base V { s with moves := s.moves.set k { moveAt s.moves k with n := q } } := hB.own.wroteMoves (by rw [hv]; exact h2) h1
    have h3 := h _ ⟨hB.off e3 ht h2, h4, hB.ty⟩ (.of_grown h2 fun k hk => by injection hk with hk; exact hk.symm)
    have hf := e3.frozen (k * 4 + 3)
    clear h hB h1 h2 h4 f0 f1 f2 e3 hm
    unfold Oper.wp
    simp only [execOp, ho, hx, hz]
    go_simp
    exact hK _ _ h3
end
theorem Own.cap {α : Type} {enc : α → List Value} {size : Nat} {e : TypeId} {w : World} {base : Nat} {A : Option Addr} {n c : Nat} {l : List α} (h : Own enc size e w base (.slice A n c) l) : n ≤ c := by
  obtain ⟨A', c', hv⟩ := h.isSlice
  injection hv with _ e2 _
  rcases h.2 with ⟨h1, h2⟩ | ⟨g, cap, cur, h1, _, _, h4, _⟩
  · injection h1 with _ h1 _
    omega
  · injection h1 with _ h1 h5
    omega
theorem moveAt_set_self {l : List Move} {k : Nat} (hk : k < l.length) (y : Move) : moveAt (l.set k y) k = y := by
  rw [moveAt_eq (by rw [List.length_set]; exact hk), List.getElem_set_self]
theorem eraseIdx_set_self {α : Type} : ∀ (l : List α) (k : Nat) (y : α), (l.set k y).eraseIdx k = l.eraseIdx k
  | [], _, _ => rfl
  | _ :: _, 0, _ => rfl
  | x :: r, k + 1, y => by
    show x :: ((r.set k y).eraseIdx k) = x :: r.eraseIdx k
    rw [eraseIdx_set_self r k y]

/-- The cells of what is cut from each line: four orders, three lines each. -/
def cutCells (s : State) (b g : Nat) (t : Int) : List Value := (List.range 12).map fun q : Nat => .int .i64 (cutN s b g t (q / 3 : Nat) (q % 3 : Nat))
section
variable {p : Plan} {s : State} {b g : Nat} {t : Int}
theorem cutCells_zero (hs : Sane p s) : cutCells s b g 0 = [.int .i64 0, .int .i64 0, .int .i64 0, .int .i64 0, .int .i64 0, .int .i64 0, .int .i64 0, .int .i64 0, .int .i64 0, .int .i64 0, .int .i64 0, .int .i64 0] := by
  unfold cutCells
  rw [show (List.range 12).map (fun q : Nat => Value.int .i64 (cutN s b g 0 (q / 3 : Nat) (q % 3 : Nat))) = (List.range 12).map (fun _ => Value.int .i64 0) from List.map_congr_left fun q _ => by rw [cutN_zero hs]]
  rfl
theorem cutCells_same (h : ∀ o k : Int, cutN s b g (t + 1) o k = cutN s b g t o k) : cutCells s b g (t + 1) = cutCells s b g t := by
  unfold cutCells
  simp only [h]
theorem cutCells_at {o k : Nat} (ho : o < 4) (hk : k < 3) : (cutCells s b g t)[o * 3 + k]? = some (.int .i64 (cutN s b g t o k)) := by
  unfold cutCells
  have h : o * 3 + k < 12 := by omega
  have e1 : (o * 3 + k) / 3 = o := by omega
  have e2 : (o * 3 + k) % 3 = k := by omega
  rw [List.getElem?_map, List.getElem?_range h]
  simp only [Option.map_some, e1, e2]
theorem cutCells_step {a c : Nat} (hc : c < 3) (h : ∀ o k : Nat, cutN s b g (t + 1) o k = cutN s b g t o k + if o = a ∧ k = c then 1 else 0) : cutCells s b g (t + 1) = (cutCells s b g t).set (a * 3 + c) (.int .i64 (cutN s b g t a c + 1)) := by
  unfold cutCells
  apply List.ext_getElem
  · simp
  · intro q h1 h2
    have hq : q < 12 := by simpa using h1
    rw [List.getElem_set]
    simp only [List.getElem_map, List.getElem_range]
    rw [h]
    by_cases he : a * 3 + c = q
    · have e1 : q / 3 = a := by omega
      have e2 : q % 3 = c := by omega
      rw [if_pos he, e1, e2, if_pos ⟨rfl, rfl⟩]
    · rw [if_neg he, if_neg (by omega), Int.add_zero]
end

/-- The taking again, order by order, line by line. -/
def ctO (p : Plan) (s : State) (b g : Nat) (seen : Int) (q : Nat) : State := cutOrdersT p b (fun o k => cutN s b g (over s b g seen) o k) q (cutS s b g seen (over s b g seen))
def ctL (p : Plan) (s : State) (b g : Nat) (seen : Int) (q k : Nat) : State := cutLinesT p q b (fun k => cutN s b g (over s b g seen) q k) k (ctO p s b g seen q)
section
variable {p : Plan} {s : State} {b g q : Nat} {seen : Int}
theorem ctO_took (hc : checkState p s = 0) (f : Counts p s b g seen) (hq : q ≤ s.orders.length) : Took p b (fun o' _ => o' < q) (cutS s b g seen (over s b g seen)) (ctO p s b g seen q) := by
  have h := right_of_check hc
  have hcut := right_of_check (cut_check hc f)
  exact cutOrdersT_took hcut (fun o k ho hk => by
    rw [cut_len] at ho
    rw [cut_lines o ho] at hk
    exact cut_ready h ho hk) _ (by rw [cut_len]; exact hq)
theorem ctO_facts (hc : checkState p s = 0) (f : Counts p s b g seen) (hq : q ≤ s.orders.length) : Right p (ctO p s b g seen q) ∧ (ctO p s b g seen q).orders.length = s.orders.length ∧ ∀ o, o < s.orders.length → ((ctO p s b g seen q).order o).lines.length = (s.order o).lines.length := by
  have h := ctO_took hc f hq
  exact ⟨h.right, by rw [h.orders, cut_len], fun o ho => by rw [h.lines, cut_lines o ho]⟩
theorem ctO_ready (hc : checkState p s = 0) (f : Counts p s b g seen) (hq : q < s.orders.length) {k : Nat} (hk : k < (s.order q).lines.length) : cutN s b g (over s b g seen) q k = 0 ∨ May (ctO p s b g seen q) q k (cutN s b g (over s b g seen) q k) :=
  (ctO_took hc f (Nat.le_of_lt hq)).may (by omega) (cut_ready (right_of_check hc) hq hk)
theorem ctL_took (hc : checkState p s = 0) (f : Counts p s b g seen) (hq : q < s.orders.length) {k : Nat} (hk : k ≤ (s.order q).lines.length) : Took p b (fun o' k' => o' = q ∧ k' < k) (ctO p s b g seen q) (ctL p s b g seen q k) := by
  obtain ⟨h1, _, h3⟩ := ctO_facts hc f (Nat.le_of_lt hq)
  exact cutLinesT_took (b := b) (o := q) h1 (fun k hk => ctO_ready hc f hq (by rw [← h3 q hq]; exact hk)) k (by rw [h3 q hq]; exact hk)
theorem ctL_facts (hc : checkState p s = 0) (f : Counts p s b g seen) (hq : q < s.orders.length) {k : Nat} (hk : k ≤ (s.order q).lines.length) : Right p (ctL p s b g seen q k) ∧ (ctL p s b g seen q k).orders.length = s.orders.length ∧ ∀ o, o < s.orders.length → ((ctL p s b g seen q k).order o).lines.length = (s.order o).lines.length := by
  obtain ⟨_, h2, h3⟩ := ctO_facts hc f (Nat.le_of_lt hq)
  have h := ctL_took hc f hq hk
  exact ⟨h.right, by rw [h.orders, h2], fun o ho => by rw [h.lines, h3 o ho]⟩
theorem ctL_may (hc : checkState p s = 0) (f : Counts p s b g seen) (hq : q < s.orders.length) {k : Nat} (hk : k < (s.order q).lines.length) (hn : 0 < cutN s b g (over s b g seen) q k) : May (ctL p s b g seen q k) q k (cutN s b g (over s b g seen) q k) :=
  ((ctL_took hc f hq (Nat.le_of_lt hk)).may (by omega) (ctO_ready hc f hq hk)).resolve_left (by omega)
theorem ctL_skip {k : Nat} (hn : ¬ 0 < cutN s b g (over s b g seen) q k) : ctL p s b g seen q (k + 1) = ctL p s b g seen q k := by
  show (takeS p (ctL p s b g seen q k) q k (cutN s b g (over s b g seen) q k) b).1 = _
  have : takeS p (ctL p s b g seen q k) q k (cutN s b g (over s b g seen) q k) b = (ctL p s b g seen q k, cutN s b g (over s b g seen) q k) := takeGo_zero (by omega)
  rw [this]
theorem ctL_all (hc : checkState p s = 0) (f : Counts p s b g seen) (hq : q < s.orders.length) : ctL p s b g seen q (s.order q).lines.length = ctO p s b g seen (q + 1) := by
  show _ = cutLinesT p q b _ ((ctO p s b g seen q).order q).lines.length (ctO p s b g seen q)
  rw [(ctO_facts hc f (Nat.le_of_lt hq)).2.2 q hq]
  rfl
theorem ctO_all : ctO p s b g seen s.orders.length = countS p s b g seen := rfl
end
end Wh
namespace Wh
open Go Go.RowKit Go.Shelf Go.Proofs
attribute [local go_sem] run_indexAt_letter

theorem pos_eq' {l : List Hold} {h : Hold} {k : Nat} (hk : k ≤ l.length) (h1 : ∀ i, i < k → ord (hold l i) h < 0) (h2 : ∀ i, k ≤ i → i < l.length → 0 ≤ ord (hold l i) h) : pos l h = k :=
  pos_eq hk h1 (fun hk' => h2 k (Nat.le_refl _) hk')

set_option maxHeartbeats 2000000 in
theorem slSearch (w : World) (v : Value) (l : List Hold) (x : Hold) (hv : Sl cHold w w.heap.size v l) (hok : holdsOk l = true) (hn : l.length ≤ 1000000) :
    Calls Tryz.prog 169 #[v, vHold x, .func (.func 167) #[] #[]] w fun e w' => e = .returned (.tuple #[.int .i64 (pos l x), .bool (found l x)]) ∧ Below w.heap.size w w' := by
  obtain ⟨A, c, rfl, _, hA⟩ := hv
  have hless := Lib.hid (fun (i j : Nat) (hij : i ≤ j) (hj : j < l.length) (h : ord (hold l j) x < 0) => ok_less hok hij hj h)
  have hok' := Lib.hid hok
  clear hok
  have hb0 : Below w.heap.size w (w.alloc (.cells #[.int .i64 (x).order, .int .i64 (x).line, .int .i64 (x).bin, .int .i64 (x).n] 46)) := (Below.refl _ _).alloc (Nat.le_refl _) _
  unfold vHold
  go_enter Tryz.func169, Tryz.ntmps169
  go_wp2_with fail
  obtain ⟨W0, hW0⟩ : ∃ W0, W0 = w.alloc (.cells #[.int .i64 (x).order, .int .i64 (x).line, .int .i64 (x).bin, .int .i64 (x).n] 46) := ⟨_, rfl⟩
  rw [← hW0] at hb0 ⊢
  have z0 : W0.cell? ⟨w.heap.size, 0, none⟩ = some (.int .i64 x.order) ∧ W0.cell? ⟨w.heap.size, 1, none⟩ = some (.int .i64 x.line) ∧ W0.cell? ⟨w.heap.size, 2, none⟩ = some (.int .i64 x.bin) ∧ W0.cell? ⟨w.heap.size, 3, none⟩ = some (.int .i64 x.n) := by rw [hW0]; simp
  have hsz : w.heap.size < W0.heap.size := by rw [hW0]; simp
  clear hW0
  obtain ⟨z0, z1, z2, z3⟩ := z0
  go_loopw [9, 10, 11] (fun i j _ wr => ∃ a b : Nat, a ≤ b ∧ b ≤ l.length ∧ i = .int .i64 a ∧ j = .int .i64 b ∧ (∀ m, m < a → ord (hold l m) x < 0) ∧ (∀ m, b ≤ m → m < l.length → 0 ≤ ord (hold l m) x) ∧ Below W0.heap.size W0 wr) (fun i j _ _ => (intOf j - intOf i).toNat)
  case atStart => exact ⟨0, l.length, Nat.zero_le _, Nat.le_refl _, rfl, rfl, fun m hm => by omega, fun m h1 h2 => by omega, Below.refl _ _⟩
  case round =>
    obtain ⟨a, b, hab, hbl, rfl, rfl, h1, h2, hbw⟩ := hrel
    have h1' := Lib.hid h1
    have h2' := Lib.hid h2
    clear h1 h2
    by_cases hlt : a < b
    · have hm : (a + b) / 2 < l.length := by omega
      have hma : a ≤ (a + b) / 2 := by omega
      have hmb : (a + b) / 2 < b := by omega
      have hB := hb0.trans (hbw.mono hb0.size)
      have hBz : w.heap.size < wr.heap.size := Nat.lt_of_lt_of_le hsz hbw.size
      obtain ⟨y0, y1, y2, y3⟩ : wr.cell? ⟨w.heap.size, 0, none⟩ = some (.int .i64 x.order) ∧ wr.cell? ⟨w.heap.size, 1, none⟩ = some (.int .i64 x.line) ∧ wr.cell? ⟨w.heap.size, 2, none⟩ = some (.int .i64 x.bin) ∧ wr.cell? ⟨w.heap.size, 3, none⟩ = some (.int .i64 x.n) :=
        ⟨(hbw.cell (p := ⟨_, _, none⟩) hsz).trans z0, (hbw.cell (p := ⟨_, _, none⟩) hsz).trans z1, (hbw.cell (p := ⟨_, _, none⟩) hsz).trans z2, (hbw.cell (p := ⟨_, _, none⟩) hsz).trans z3⟩
      obtain ⟨hok, hAb, b0, b1, b2, b3⟩ := (hA.up hB hB.size).hold hm
      have q0 := fun o d os => cells_wld (w := wr) (b := w.heap.size) hBz o d os
      have qA := fun o d os => cells_wld (w := wr) (b := ablk A) hAb o d os
      by_cases ho : ord (hold l ((a + b) / 2)) x < 0
      · go_wp2_with fail
        refine wp_region_wld (by kernel_rfl) (by kernel_rfl) ?_
        repeat (go_big_quiet_step ((go_at_call 167; refine calls_wld (hdOrder (hold l ((a + b) / 2)) x _))))
        refine wpQuiet_nil ?_
        intro W2 hw'
        have hb2 := below_of_cls hw'
        clear hw'
        go_wp2_with fail
        go_roundw
        case rel =>
          refine ⟨(a + b) / 2 + 1, b, by omega, hbl, by go_num, rfl, fun m hm => ?_, h2'.out, hbw.trans (hb2.mono hbw.size)⟩
          exact hless.out m _ (by omega) (by omega) ho
        case measure => simp [intOf]; omega
      · have ho' : 0 ≤ ord (hold l ((a + b) / 2)) x := by omega
        go_wp2_with fail
        refine wp_region_wld (by kernel_rfl) (by kernel_rfl) ?_
        repeat (go_big_quiet_step ((go_at_call 167; refine calls_wld (hdOrder (hold l ((a + b) / 2)) x _))))
        refine wpQuiet_nil ?_
        intro W2 hw'
        have hb2 := below_of_cls hw'
        clear hw'
        go_wp2_with fail
        go_roundw
        case rel =>
          refine ⟨a, (a + b) / 2, by omega, by omega, rfl, by go_num, h1'.out, fun m hm hml => ?_, hbw.trans (hb2.mono hbw.size)⟩
          exact Int.not_lt.1 fun hn => by have := hless.out _ m hm hml hn; omega
        case measure => simp [intOf]; omega
    · obtain rfl : a = b := by omega
      have hpos : pos l x = a := pos_eq' hbl h1'.out h2'.out
      have hpos' := Lib.hid hpos
      have hB := hb0.trans (hbw.mono hb0.size)
      by_cases hal : a < l.length
      · have hBz : w.heap.size < wr.heap.size := Nat.lt_of_lt_of_le hsz hbw.size
        obtain ⟨y0, y1, y2, y3⟩ : wr.cell? ⟨w.heap.size, 0, none⟩ = some (.int .i64 x.order) ∧ wr.cell? ⟨w.heap.size, 1, none⟩ = some (.int .i64 x.line) ∧ wr.cell? ⟨w.heap.size, 2, none⟩ = some (.int .i64 x.bin) ∧ wr.cell? ⟨w.heap.size, 3, none⟩ = some (.int .i64 x.n) :=
          ⟨(hbw.cell (p := ⟨_, _, none⟩) hsz).trans z0, (hbw.cell (p := ⟨_, _, none⟩) hsz).trans z1, (hbw.cell (p := ⟨_, _, none⟩) hsz).trans z2, (hbw.cell (p := ⟨_, _, none⟩) hsz).trans z3⟩
        obtain ⟨hok, hAb, b0, b1, b2, b3⟩ := (hA.up hB hB.size).hold hal
        have q0 := fun o d os => cells_wld (w := wr) (b := w.heap.size) hBz o d os
        have qA := fun o d os => cells_wld (w := wr) (b := ablk A) hAb o d os
        have hf := Lib.hid (show found l x = (ord (hold l a) x == 0) by
          unfold found
          rw [hpos, decide_eq_true hal, Bool.true_and]
          rw [Bool.eq_iff_iff]; simp)
        clear hpos
        go_wp2_with fail
        refine wp_region_wld (by kernel_rfl) (by kernel_rfl) ?_
        repeat (go_big_quiet_step ((go_at_call 167; refine calls_wld (hdOrder (hold l a) x _))))
        refine wpQuiet_nil ?_
        intro W2 hw'
        have hb2 := below_of_cls hw'
        clear hw'
        go_wp2_with fail
        go_ret2
        exact ⟨ret2 (by rw [hpos'.out]; rfl) (by rw [hf.out]; rfl), hB.trans (hb2.mono hB.size)⟩
      · have hf := Lib.hid (show found l x = false by
          unfold found
          rw [hpos, decide_eq_false hal, Bool.false_and])
        obtain rfl : a = l.length := by omega
        clear hpos hal
        go_wp2_with fail
        refine wp_region_wld (by kernel_rfl) (by kernel_rfl) ?_
        repeat (go_big_quiet_step ((go_at_call 167; refine calls_wld (hdOrder (hold l a) x _))))
        refine wpQuiet_nil ?_
        intro W2 hw'
        have hb2 := below_of_cls hw'
        clear hw'
        go_wp2_with fail
        go_ret2
        exact ⟨ret2 (by rw [hpos'.out]; rfl) (by rw [hf.out]; rfl), hB.trans (hb2.mono hB.size)⟩

set_option maxHeartbeats 400000 in
theorem hdFind (w : World) (v : Value) (l : List Hold) (x : Hold) (hv : Sl cHold w w.heap.size v l) (hok : holdsOk l = true) (hn : l.length ≤ 1000000) :
    Calls Tryz.prog 154 #[v, vHold x] w fun e w' => e = .returned (.tuple #[.int .i64 (pos l x), .bool (found l x)]) ∧ Below w.heap.size w w' := by
  have hV := hv
  obtain ⟨A, c, rfl, hl, hA⟩ := hv
  have hok' := Lib.hid hok
  clear hok
  have hb0 : Below w.heap.size w (w.alloc (.cells #[.int .i64 (x).order, .int .i64 (x).line, .int .i64 (x).bin, .int .i64 (x).n] 46)) := (Below.refl _ _).alloc (Nat.le_refl _) _
  unfold vHold
  go_enter Tryz.func154, Tryz.ntmps154
  go_wp2_with fail
  refine (slSearch _ _ l x (hV.grow hb0) hok'.out hn).mono ?_
  rintro e W1 ⟨rfl, hb1⟩
  go_wp2_with fail
  go_ret2
  exact ⟨ret2 rfl rfl, hb0.trans (hb1.mono hb0.size)⟩
end Wh
