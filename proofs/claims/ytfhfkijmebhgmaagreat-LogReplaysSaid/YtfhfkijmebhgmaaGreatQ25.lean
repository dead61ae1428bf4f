/- Texts of the claim, joined: WaveP, WaveA. -/
import Derived.StillTailTactics
import Derived.Test.YtfhfkijmebhgmaaGreatQ17
import Derived.Test.YtfhfkijmebhgmaaGreatQ24
import Derived.Test.YtfhfkijmebhgmaaGreatQ14
import Derived.Test.YtfhfkijmebhgmaaGreatQ13
namespace Wh

def fl (o : Order) (k : Nat) : Order := ⟨1, (o.lines.take k).map (fun x => { x with back := x.want }) ++ o.lines.drop k⟩
def freedN (s : State) (n : Nat) : State := { s with orders := (s.orders.take n).map freed ++ s.orders.drop n }
def freedK (s : State) (n k : Nat) : State := { s with orders := (freedN s n).orders.set n (fl (s.order n) k) }
section
variable {s : State} {n k : Nat}
theorem freedN_zero (s : State) : freedN s 0 = s := by simp [freedN]
theorem freedN_all (s : State) : freedN s s.orders.length = freedS s := by simp [freedN, freedS]
theorem freedN_len (s : State) (n : Nat) : (freedN s n).orders.length = s.orders.length := by
  unfold freedN
  simp only [List.length_append, List.length_map, List.length_take, List.length_drop]
  omega
theorem freedN_order (hn : n < s.orders.length) : (freedN s n).order n = s.order n := by
  unfold State.order orderAt freedN
  simp only [List.getD]
  rw [List.getElem?_append_right (by simp; omega)]
  simp [Nat.min_eq_left (Nat.le_of_lt hn)]
theorem freedN_succ (hn : n < s.orders.length) : freedN s (n + 1) = { s with orders := (freedN s n).orders.set n (freed (s.order n)) } := by
  have e : s.order n = s.orders[n] := orderAt_eq hn
  unfold freedN
  rw [e, List.take_succ_eq_append_getElem hn, List.map_append, List.append_assoc]
  congr 1
  have h1 : ((s.orders.take n).map freed).length = n := by simp; omega
  rw [List.set_append_right _ _ (by omega), h1, Nat.sub_self, List.drop_eq_getElem_cons hn]
  rfl
theorem freedN_self (hn : n < s.orders.length) : (freedN s n).orders.set n (s.order n) = (freedN s n).orders := by
  rw [← freedN_order hn]
  unfold State.order
  rw [orderAt_eq (by rw [freedN_len]; exact hn), List.set_getElem_self]
theorem freedN_skip (hn : n < s.orders.length) (hk : (s.order n).kind ≠ 0) : freedN s (n + 1) = freedN s n := by
  rw [freedN_succ hn]
  have : freed (s.order n) = s.order n := by unfold freed; rw [if_neg hk]
  rw [this, freedN_self hn]
  rfl
theorem fl_zero (o : Order) : fl o 0 = { o with kind := 1 } := by simp [fl]
theorem fl_all (o : Order) (hk : o.kind = 0) : fl o o.lines.length = freed o := by
  unfold fl freed
  rw [if_pos hk]
  simp
theorem fl_len (o : Order) (k : Nat) : (fl o k).lines.length = o.lines.length := by
  unfold fl
  simp only [List.length_append, List.length_map, List.length_take, List.length_drop]
  omega
theorem fl_line {o : Order} {k : Nat} (hk : k < o.lines.length) : lineAt (fl o k).lines k = lineAt o.lines k := by
  unfold fl lineAt
  simp only [List.getD]
  rw [List.getElem?_append_right (by simp; omega)]
  simp [Nat.min_eq_left (Nat.le_of_lt hk)]
theorem fl_succ {o : Order} {k : Nat} (hk : k < o.lines.length) : fl o (k + 1) = { fl o k with lines := (fl o k).lines.set k { lineAt o.lines k with back := (lineAt o.lines k).want } } := by
  have e : lineAt o.lines k = o.lines[k] := lineAt_eq hk
  unfold fl
  rw [e, List.take_succ_eq_append_getElem hk, List.map_append, List.append_assoc]
  congr 1
  have h1 : ((o.lines.take k).map fun x => ({ x with back := x.want } : Line)).length = k := by simp; omega
  rw [List.set_append_right _ _ (by omega), h1, Nat.sub_self, List.drop_eq_getElem_cons hk]
  rfl
theorem freedK_zero (hn : n < s.orders.length) : ({ freedN s n with orders := (freedN s n).orders.set n { (freedN s n).order n with kind := 1 } } : State) = freedK s n 0 := by
  unfold freedK
  rw [fl_zero, freedN_order hn]
  rfl
theorem freedK_len : (freedK s n k).orders.length = s.orders.length := by
  unfold freedK
  rw [List.length_set, freedN_len]
theorem freedK_order (hn : n < s.orders.length) : (freedK s n k).order n = fl (s.order n) k := by
  have := orderAt_set (l := (freedN s n).orders) (o := n) (by rw [freedN_len]; exact hn) (fl (s.order n) k) n
  rw [if_pos rfl] at this
  exact this
theorem freedK_lines (hn : n < s.orders.length) : ((freedK s n k).order n).lines.length = (s.order n).lines.length := by rw [freedK_order hn, fl_len]
theorem freedK_line (hn : n < s.orders.length) (hk : k < (s.order n).lines.length) : (freedK s n k).line n k = s.line n k := by
  unfold State.line
  rw [freedK_order hn, fl_line hk]
theorem freedK_succ (hn : n < s.orders.length) (hk : k < (s.order n).lines.length) : (freedK s n k).setLine n k { s.line n k with back := (s.line n k).want } = freedK s n (k + 1) := by
  unfold State.setLine
  rw [freedK_order hn]
  have e : s.line n k = lineAt (s.order n).lines k := rfl
  rw [e, ← fl_succ hk]
  show ({ s with orders := ((freedN s n).orders.set n (fl (s.order n) k)).set n (fl (s.order n) (k + 1)) } : State) = _
  rw [List.set_set]
  rfl
theorem freedK_all (hn : n < s.orders.length) (hk : (s.order n).kind = 0) : freedK s n (s.order n).lines.length = freedN s (n + 1) := by
  unfold freedK
  rw [fl_all _ hk, freedN_succ hn]

-- what is taken, order by order, line by line
def relK (p : Plan) (s : State) (n k : Nat) : State := takeLines p n k (takeOrders p n (freedS s))
theorem relK_facts {p : Plan} (h : checkState p s = 0) (hn : n < s.orders.length) (hkd : ((takeOrders p n (freedS s)).order n).kind = 1) (hk : k ≤ (s.order n).lines.length) :
    Right p (relK p s n k) ∧ (relK p s n k).orders.length = s.orders.length ∧ (∀ o, ((relK p s n k).order o).kind = ((takeOrders p n (freedS s)).order o).kind) ∧ ((relK p s n k).order n).lines.length = (s.order n).lines.length := by
  have hf := right_of_check (freed_right h)
  have h1 := takeOrders_taken hf n (by rw [freed_len]; omega)
  have hl : ((takeOrders p n (freedS s)).order n).lines.length = (s.order n).lines.length := by rw [h1.lines, freed_lines s hn]
  have h2 := takeLines_taken h1.right (o := n) (by rw [h1.orders, freed_len]; exact hn) hkd k (by rw [hl]; exact hk)
  exact ⟨h2.right, by rw [show relK p s n k = takeLines p n k (takeOrders p n (freedS s)) from rfl, h2.orders, h1.orders, freed_len], h2.kind, by rw [show relK p s n k = takeLines p n k (takeOrders p n (freedS s)) from rfl, h2.lines, hl]⟩
theorem relK_may {p : Plan} (h : checkState p s = 0) (hn : n < s.orders.length) (hkd : ((takeOrders p n (freedS s)).order n).kind = 1) (hk : k < (s.order n).lines.length) : May (relK p s n k) n k ((relK p s n k).line n k).back := by
  obtain ⟨h1, h2, h3, h4⟩ := relK_facts h hn hkd (Nat.le_of_lt hk)
  exact sane_back h1 (by rw [h2]; exact hn) (by rw [h4]; exact hk) (by rw [h3]; exact hkd)
theorem relO_facts {p : Plan} (h : checkState p s = 0) (hn : n ≤ s.orders.length) : Right p (takeOrders p n (freedS s)) ∧ (takeOrders p n (freedS s)).orders.length = s.orders.length ∧ ∀ o, o < s.orders.length → ((takeOrders p n (freedS s)).order o).lines.length = (s.order o).lines.length := by
  have hf := right_of_check (freed_right h)
  have h1 := takeOrders_taken hf n (by rw [freed_len]; omega)
  exact ⟨h1.right, by rw [h1.orders, freed_len], fun o ho => by rw [h1.lines, freed_lines s ho]⟩
theorem relO_yes {p : Plan} (h : checkState p s = 0) (hn : n < s.orders.length) (hkd : ((takeOrders p n (freedS s)).order n).kind = 1) : relK p s n (s.order n).lines.length = takeOrders p (n + 1) (freedS s) := by
  show _ = takeOrder p (takeOrders p n (freedS s)) n
  unfold takeOrder
  rw [if_pos hkd, (relO_facts h (Nat.le_of_lt hn)).2.2 n hn]
  rfl
theorem relO_no {p : Plan} (hkd : ((takeOrders p n (freedS s)).order n).kind ≠ 1) : takeOrders p (n + 1) (freedS s) = takeOrders p n (freedS s) := by
  show takeOrder p (takeOrders p n (freedS s)) n = _
  unfold takeOrder
  rw [if_neg hkd]
end
section
variable {p : Plan} {s : State} {o : Int}
theorem release_bad (h : checkState p s ≠ 0) : release p s = (dState, checkState p s) := by unfold release; rw [if_pos h]
theorem release_ok (h : checkState p s = 0) : release p s = (releaseS p s, 0) := by unfold release; rw [if_neg (fun hn => hn h)]
theorem cancel_bad (h : checkState p s ≠ 0) : cancel p s o = (dState, checkState p s) := by unfold cancel; rw [if_pos h]
theorem cancel_none (h : checkState p s = 0) (h2 : o < 0 ∨ (s.orders.length : Int) ≤ o) : cancel p s o = (dState, 4) := by
  unfold cancel
  rw [if_neg (fun hn => hn h), within_false.2 (by omega)]
  rfl
theorem cancel_done {i : Nat} (h : checkState p s = 0) (hi : i < s.orders.length) (hk : (s.order i).kind = 2) : cancel p s i = (dState, 6) := by
  unfold cancel
  rw [if_neg (fun hn => hn h), within_iff.2 (by omega), if_neg (by simp), Int.toNat_natCast, if_pos hk]
theorem cancel_ok {i : Nat} (h : checkState p s = 0) (hi : i < s.orders.length) (hk : (s.order i).kind ≠ 2) : cancel p s i = (cancelS s i, 0) := by
  unfold cancel
  rw [if_neg (fun hn => hn h), within_iff.2 (by omega), if_neg (by simp), Int.toNat_natCast, if_neg hk]
end
/-- Who is cancelled: line by line. -/
def clines (o : Order) (k : Nat) : List Line := (o.lines.take k).map (fun x => { x with back := x.want - x.got }) ++ o.lines.drop k
theorem clines_zero (o : Order) : clines o 0 = o.lines := by simp [clines]
theorem clines_all (o : Order) : clines o o.lines.length = o.lines.map fun x => { x with back := x.want - x.got } := by simp [clines]
theorem clines_len (o : Order) (k : Nat) : (clines o k).length = o.lines.length := by
  unfold clines
  simp only [List.length_append, List.length_map, List.length_take, List.length_drop]
  omega
theorem clines_line {o : Order} {k : Nat} (hk : k < o.lines.length) : lineAt (clines o k) k = lineAt o.lines k := by
  unfold clines lineAt
  simp only [List.getD]
  rw [List.getElem?_append_right (by simp; omega)]
  simp [Nat.min_eq_left (Nat.le_of_lt hk)]
theorem clines_succ {o : Order} {k : Nat} (hk : k < o.lines.length) : clines o (k + 1) = (clines o k).set k { lineAt o.lines k with back := (lineAt o.lines k).want - (lineAt o.lines k).got } := by
  have e : lineAt o.lines k = o.lines[k] := lineAt_eq hk
  unfold clines
  rw [e, List.take_succ_eq_append_getElem hk, List.map_append, List.append_assoc]
  have h1 : ((o.lines.take k).map fun x => ({ x with back := x.want - x.got } : Line)).length = k := by simp; omega
  rw [List.set_append_right _ _ (by omega), h1, Nat.sub_self, List.drop_eq_getElem_cons hk]
  rfl
/-- The state whose order i is closed, k of its lines done. -/
def cancK (s : State) (l : List Hold) (i k : Nat) : State := { s with holds := l, orders := s.orders.set i ⟨2, clines (s.order i) k⟩ }
section
variable {s : State} {l : List Hold} {i k : Nat}
theorem cancK_zero : ({ s with holds := l, orders := s.orders.set i { s.order i with kind := 2 } } : State) = cancK s l i 0 := by
  unfold cancK
  rw [clines_zero]
theorem cancK_len : (cancK s l i k).orders.length = s.orders.length := by unfold cancK; rw [List.length_set]
theorem cancK_order (hi : i < s.orders.length) : (cancK s l i k).order i = ⟨2, clines (s.order i) k⟩ := by
  have := orderAt_set (l := s.orders) hi ⟨2, clines (s.order i) k⟩ i
  rw [if_pos rfl] at this
  exact this
theorem cancK_lines (hi : i < s.orders.length) : ((cancK s l i k).order i).lines.length = (s.order i).lines.length := by rw [cancK_order hi, clines_len]
theorem cancK_line (hi : i < s.orders.length) (hk : k < (s.order i).lines.length) : (cancK s l i k).line i k = s.line i k := by
  unfold State.line
  rw [cancK_order hi, clines_line hk]
theorem cancK_succ (hi : i < s.orders.length) (hk : k < (s.order i).lines.length) : (cancK s l i k).setLine i k { s.line i k with back := (s.line i k).want - (s.line i k).got } = cancK s l i (k + 1) := by
  unfold State.setLine
  rw [cancK_order hi]
  have e : s.line i k = lineAt (s.order i).lines k := rfl
  rw [e]
  show ({ s with holds := l, orders := (s.orders.set i ⟨2, clines (s.order i) k⟩).set i ⟨2, (clines (s.order i) k).set k _⟩ } : State) = _
  rw [List.set_set, ← clines_succ hk]
  rfl
theorem cancK_all : cancK s (s.holds.filter fun h => decide (h.order ≠ i)) i (s.order i).lines.length = cancelS s i := by
  unfold cancK cancelS
  rw [clines_all]
end
end Wh
namespace Wh
open Go Go.RowKit Go.Shelf Go.Proofs
attribute [local go_sem] run_indexAt_letter evL_tmp evL_const evL_func

/-- The cells of an order, of a state whose orders stand in V. -/
theorem OwnSt.orderCells {w : World} {base : Nat} {V : SV} {s : State} (h : OwnSt w base V s) {o : Nat} (ho : o < s.orders.length) {go n c : Nat} (hv : V.orders = .slice (some ⟨go, 0, none⟩) n c) : base ≤ go ∧ go < w.heap.size ∧
    w.cell? ⟨go, o * 2, none⟩ = some (.int .i64 (s.order o).kind) ∧ w.cell? ⟨go, o * 2 + 1, none⟩ = some (V.line o) := by
  obtain ⟨g', c', cur, e1, h2, h3, z0, z1⟩ := h.orderAt ho
  rw [hv] at e1
  injection e1 with e1
  injection e1 with e1
  injection e1 with e1
  subst e1
  exact ⟨h2, h3.lt, z0, z1⟩
theorem OwnSt.lineSlice {w : World} {base : Nat} {V : SV} {s : State} (h : OwnSt w base V s) {o : Nat} (ho : o < s.orders.length) (hl : 0 < (s.order o).lines.length) : ∃ gl c, V.line o = .slice (some ⟨gl, 0, none⟩) (s.order o).lines.length c ∧ base ≤ gl := by
  obtain ⟨g, c, cur, e1, h2, _⟩ := h.lineAt ho hl
  exact ⟨g, c, e1, h2⟩
theorem OwnSt.ordersSlice {w : World} {base : Nat} {V : SV} {s : State} (h : OwnSt w base V s) : ∃ A c, V.orders = .slice A s.orders.length c := by
  obtain ⟨A, c, e⟩ := h.orders.isSlice
  exact ⟨A, c, by rw [e, ords_length h.llen]⟩

theorem sv_holds {V9 V V5 : SV} (h : V9 = { V with holds := V9.holds }) (h' : V = { V5 with holds := V.holds }) : V9 = { V5 with holds := V9.holds } := by
  rw [h'] at h
  exact h

set_option maxHeartbeats 8000000 in
set_option maxRecDepth 100000 in
theorem wvRelease (w : World) (v vs : Value) (p : Plan) (s : State) (hp : PlanV w w.heap.size v p) (hv : StateV w w.heap.size vs s) :
    Calls Tryz.prog 46 #[v, vs] w (ActPost (release p s) w) := by
  obtain ⟨Ab, cb, As, cs, rfl, hP', hBn, hSz, hlb, hls⟩ := openPl hp
  obtain ⟨A0, c0, A1, c1, A2, c2, A3, c3, A4, c4, A5, c5, A6, c6, rfl, hV, hN, hO, hH, hM, hI, hU, hX, hl0, hl1, hl2, hl3, hl4, hl5, hl6⟩ := openOne hv
  go_enter Tryz.func46, Tryz.ntmps46
  go_wp2_with fail
  obtain ⟨W0, hW0, hb0, hsz0, hsz1, hsE, hK, hR⟩ := boxesAct w p s Ab cb As cs A0 c0 A1 c1 A2 c2 A3 c3 A4 c4 A5 c5 A6 c6
  rw [hW0]
  clear hW0
  obtain ⟨⟨y0, y1⟩, x0, x1, x2, x3, x4, x5, x6, hbz0, hbz1⟩ := hK.out W0 (Below.refl W0.heap.size W0)
  go_wp2_with fail
  clear y0 y1 x0 x1 x2 x3 x4 x5 x6 hbz0 hbz1
  refine (sCheck _ _ _ p s (hP'.out _ hb0) (hV.out _ hb0)).mono ?_
  rintro e W1 ⟨rfl, h1⟩
  have hB1 := hb0.trans (h1.mono hb0.size)
  obtain ⟨⟨y0, y1⟩, x0, x1, x2, x3, x4, x5, x6, hbz0, hbz1⟩ := hK.out W1 (h1)
  by_cases hc : checkState p s = 0
  · have hc' := Lib.hid hc
    have hsn := Lib.hid (checkState_zero.1 hc).1
    have hfin := Lib.hid (release_ok hc)
    have h4 := hsn.out.orders4
    rw [hc]
    clear hc
    go_wp2_with fail
    clear y0 y1 x0 x1 x2 x3 x4 x5 x6 hbz0 hbz1
    refine (sOwn _ _ p s (hV.out _ hB1) hsn.out).mono ?_
    rintro e W5 ⟨_, rfl, ⟨V5, rfl, ho5⟩, h5⟩
    have hone6 := (ho5).one
    have hnb6 := newBox (W5)
    go_wp2_with (refine wpList_store_state rfl (.tmp 7) (.tmp 22) rfl rfl (World.heap (W5)).size nilSV V5 hnb6 rfl rfl hone6 (fun w6 hbox6 hg6 => ?_); refine Hid.out ?_)
    unfold Hid
    have hbb6 := newBelow hg6
    have hbl6 := hbox6.lt
    clear hone6 hnb6 hg6
    have hx6 := Lib.hid (Bx.of hbox6 (ho5.below hbb6))
    have h06 := h1.trans ((h5.trans (hbb6.mono h5.size)).mono h1.size)
    have hle : w.heap.size ≤ W1.heap.size := hB1.size
    have hle0 : W0.heap.size ≤ W1.heap.size := h1.size
    have hle5 : W1.heap.size ≤ W5.heap.size := h5.size
    clear hbox6 ho5 hbb6 h5 hbl6 h1 hB1
    generalize W1.heap.size = base at hx6 hle hle0 hle5
    generalize W5.heap.size = bx at hx6 hle5 ⊢
    obtain ⟨Ao, co, hvo⟩ := hx6.out.own.ordersSlice
    have hvo' := Lib.hid hvo
    have c1 := hx6.out.cells.2.1
    rw [hvo] at c1
    clear hvo
    go_wp2_with fail
    clear c1
    go_loopw [26, 8, 9, 10] (fun i _ _ _ wr => ∃ n : Nat, n ≤ s.orders.length ∧ i = .int .i64 n ∧ Bx wr base bx 31 [] V5 (freedN s n) ∧ Below W0.heap.size W0 wr) (fun i _ _ _ _ => s.orders.length - (intOf i).toNat)
    case atStart => exact ⟨0, Nat.zero_le _, rfl, by rw [freedN_zero]; exact hx6.out, h06⟩
    case round =>
      clear hx6 h06
      obtain ⟨n, hn, rfl, hx, h0⟩ := hrel
      have hx' := Lib.hid hx
      clear hx
      by_cases hlt : n < s.orders.length
      · have hni : (n : Int) < (s.orders.length : Int) := by omega
        have hltn : n < (freedN s n).orders.length := by rw [freedN_len]; exact hlt
        have l13 := hsn.out.lines3 hlt
        obtain ⟨go, _, _, eo, -⟩ := hx'.out.own.orderAt hltn
        rw [hvo'.out] at eo
        injection eo with eo e2 e3
        subst eo
        clear e2 e3
        obtain ⟨hgo, hgol, z0, z1⟩ := hx'.out.own.orderCells hltn hvo'.out
        rw [freedN_order hlt] at z0
        have c1 := hx'.out.cells.2.1
        rw [hvo'.out] at c1
        clear hltn
        by_cases hk : (s.order n).kind = 0
        · have hq : ((s.order n).kind == 0) = true := by simpa using hk
          have hk' := Lib.hid hk
          clear hk
          go_wp2_with (refine wp_st_kind rfl (.tmp 40) (.const (.int .i64 1)) rfl rfl (i := n) (q := 1) hx'.out (by rw [freedN_len]; exact hlt) hvo'.out rfl rfl (fun w7 hx7 hst7 => ?_); refine Hid.out ?_)
          unfold Hid
          rw [freedK_zero hlt] at hx7
          have h07 := h0.trans (hst7.below (B := W0.heap.size) (fun q hq => by omega) h0.size)
          have hx7' := Lib.hid hx7
          clear hst7 hx7 z0 z1 c1 hq hx'
          obtain ⟨_, _, z0, z1⟩ := hx7'.out.own.orderCells (by rw [freedK_len]; exact hlt) hvo'.out
          obtain ⟨gl, cl, e1, hgl⟩ := hx7'.out.own.lineSlice (o := n) (by rw [freedK_len]; exact hlt) (by rw [freedK_lines hlt]; omega)
          rw [freedK_lines hlt] at e1
          have e1' := Lib.hid e1
          rw [e1] at z1
          clear e1 z0
          go_wp2_with fail
          clear z1
          go_loopw [46, 10] (fun i _ wr => ∃ k : Nat, k ≤ (s.order n).lines.length ∧ i = .int .i64 k ∧ Bx wr base bx 31 [] V5 (freedK s n k) ∧ Below W0.heap.size W0 wr) (fun i _ _ => (s.order n).lines.length - (intOf i).toNat)
          case atStart => exact ⟨0, Nat.zero_le _, rfl, hx7'.out, h07⟩
          case round =>
            clear hx7' h07 h0
            obtain ⟨k, hkl, rfl, hx, h0⟩ := hrel
            have hx' := Lib.hid hx
            clear hx
            by_cases hkt : k < (s.order n).lines.length
            · have hki : (k : Int) < ((s.order n).lines.length : Int) := by omega
              have hon : n < (freedK s n k).orders.length := by rw [freedK_len]; exact hlt
              have hkn : k < ((freedK s n k).order n).lines.length := by rw [freedK_lines hlt]; exact hkt
              obtain ⟨_, _, _, z1⟩ := hx'.out.own.orderCells hon hvo'.out
              rw [e1'.out] at z1
              obtain ⟨hgll, f0, f1, f2, f3⟩ := hx'.out.own.lineCells hon hkn e1'.out
              rw [freedK_line hlt hkt] at f1
              have hx'd := Lib.hid hx'.out.drew
              clear f0 f2 f3
              go_wp2_with fail
              go_still_tail 15, (by kernel_rfl)
              change wpList _ _ _ _ _ wr.drew
              refine wp_st_line rfl (.tmp 63) (.tmp 61) rfl rfl (j := 3) (y := { s.line n k with back := (s.line n k).want }) hx'd.out hon hkn e1'.out (by decide) (by rw [freedK_line hlt hkt]; rfl) rfl rfl (fun w9 hx9 hst9 => ?_)
              refine wpList_nil ?_
              rw [freedK_succ hlt hkt] at hx9
              have h09 := h0.drew.trans (hst9.below (B := W0.heap.size) (fun q hq => by omega) h0.drew.size)
              have hx9' := Lib.hid hx9
              clear hst9 hx9 z1 f1 hx' hx'd hon hkn
              go_wp2_with fail
              go_roundw
              case rel => exact ⟨k + 1, by omega, by go_num, hx9'.out, h09⟩
              case measure => simp [intOf]; omega
            · obtain rfl : k = (s.order n).lines.length := by omega
              have hx2 := Lib.hid (show Bx wr base bx 31 [] V5 (freedN s (n + 1)) by rw [← freedK_all hlt hk'.out]; exact hx'.out)
              go_wp2_with fail
              go_roundw
              case rel => exact ⟨n + 1, by omega, by go_num, hx2.out, h0⟩
              case measure => simp [intOf]; omega
        · have hq : ((s.order n).kind == 0) = false := by simpa using hk
          have hx2 := Lib.hid (show Bx wr base bx 31 [] V5 (freedN s (n + 1)) by rw [freedN_skip hlt hk]; exact hx'.out)
          clear hk
          go_wp2_with fail
          go_roundw
          case rel => exact ⟨n + 1, by omega, by go_num, hx2.out, h0⟩
          case measure => simp [intOf]; omega
      · obtain rfl : n = s.orders.length := by omega
        have hx6 := Lib.hid (show Bx wr base bx 31 [] V5 (takeOrders p 0 (freedS s)) by rw [← freedN_all]; exact hx'.out)
        have c1 := hx'.out.cells.2.1
        rw [hvo'.out] at c1
        clear hx'
        go_wp2_with fail
        clear c1
        have h06 := h0
        clear h0
        go_loopw [69, 11, 12, 13] (fun i _ _ _ wr => ∃ (n : Nat) (V : SV), V = { V5 with holds := V.holds } ∧ n ≤ s.orders.length ∧ i = .int .i64 n ∧ Bx wr base bx 31 [] V (takeOrders p n (freedS s)) ∧ Below W0.heap.size W0 wr) (fun i _ _ _ _ => s.orders.length - (intOf i).toNat)
        case atStart => exact ⟨0, V5, rfl, Nat.zero_le _, rfl, hx6.out, h06⟩
        case round =>
          clear hx6 h06
          obtain ⟨n, V, hV5, hn, rfl, hx, h0⟩ := hrel
          have hx' := Lib.hid hx
          have hVo := Lib.hid (show V.orders = .slice Ao s.orders.length co by rw [hV5]; exact hvo'.out)
          have hV5' := Lib.hid hV5
          clear hx hV5
          by_cases hlt : n < s.orders.length
          · have hni : (n : Int) < (s.orders.length : Int) := by omega
            have l13 := hsn.out.lines3 hlt
            obtain ⟨hrt, hlen, hlines⟩ := relO_facts (p := p) hc'.out hn
            have hltn : n < (takeOrders p n (freedS s)).orders.length := by rw [hlen]; exact hlt
            have hln := hlines n hlt
            obtain ⟨go, _, _, eo, -⟩ := hx'.out.own.orderAt hltn
            rw [hVo.out] at eo
            injection eo with eo e2 e3
            subst eo
            clear e2 e3
            obtain ⟨hgo, hgol, z0, z1⟩ := hx'.out.own.orderCells hltn hVo.out
            obtain ⟨gl, cl, e1, hgl⟩ := hx'.out.own.lineSlice hltn (by rw [hln]; omega)
            rw [hln] at e1
            rw [e1] at z1
            have e1' := Lib.hid e1
            have hl0 := Lib.hid h0
            generalize hkd : ((takeOrders p n (freedS s)).order n).kind = kd at z0
            have hkd' := Lib.hid hkd
            clear hkd hrt hlen hlines hltn hln e1
            by_cases hk : kd = 1
            · subst hk
              have h0a := h0.alloc h0.size (.cells #[.int .i64 1, .slice (some ⟨gl, 0, none⟩) (s.order n).lines.length cl] 42)
              have hxa := Lib.hid (hx'.out.below ((Below.refl wr.heap.size wr).alloc (Nat.le_refl _) (.cells #[.int .i64 1, .slice (some ⟨gl, 0, none⟩) (s.order n).lines.length cl] 42)))
              go_wp2_with fail
              clear z0 z1 h0 hl0 hx'
              generalize wr.heap.size = wo
              generalize wr.alloc (.cells #[.int .i64 1, .slice (some ⟨gl, 0, none⟩) (s.order n).lines.length cl] 42) = wa at h0a hxa ⊢
              go_loopw [80, 13] (fun i _ wr => ∃ (k : Nat) (V : SV), V = { V5 with holds := V.holds } ∧ k ≤ (s.order n).lines.length ∧ i = .int .i64 k ∧ Bx wr base bx 31 [] V (relK p s n k) ∧ Below W0.heap.size W0 wr) (fun i _ _ => (s.order n).lines.length - (intOf i).toNat)
              case atStart => exact ⟨0, V, hV5'.out, Nat.zero_le _, rfl, hxa.out, h0a⟩
              case round =>
                clear hxa h0a hVo hV5' e1' V
                obtain ⟨k, V, hV5, hkl, rfl, hx, h0⟩ := hrel
                have hx' := Lib.hid hx
                have hVo := Lib.hid (show V.orders = .slice (some ⟨go, 0, none⟩) s.orders.length co by rw [hV5]; exact hvo'.out)
                have hV5' := Lib.hid hV5
                clear hx hV5
                by_cases hkt : k < (s.order n).lines.length
                · have hki : (k : Int) < ((s.order n).lines.length : Int) := by omega
                  obtain ⟨hrt, hlen, _, hln⟩ := relK_facts hc'.out hlt hkd'.out hkl
                  have hmay := Lib.hid (relK_may hc'.out hlt hkd'.out hkt)
                  have hrt' := Lib.hid hrt
                  have hon : n < (relK p s n k).orders.length := by rw [hlen]; exact hlt
                  have hkn : k < ((relK p s n k).order n).lines.length := by rw [hln]; exact hkt
                  obtain ⟨_, _, _, z1⟩ := hx'.out.own.orderCells hon hVo.out
                  obtain ⟨gl2, cl2, e1, hgl2⟩ := hx'.out.own.lineSlice hon (by rw [hln]; omega)
                  rw [hln] at e1
                  rw [e1] at z1
                  obtain ⟨hgll, f0, f1, f2, f3⟩ := hx'.out.own.lineCells hon hkn e1
                  have c1 := hx'.out.cells.2.1
                  rw [hVo.out] at c1
                  have hxd := Lib.hid hx'.out.drew
                  have hBd := hb0.trans (h0.drew.mono hb0.size)
                  have e1' := Lib.hid e1
                  obtain ⟨⟨y0, y1⟩, x0, x1, x2, x3, x4, x5, x6, hbz0, hbz1⟩ := hK.out wr (h0)
                  clear f0 f1 f2 hrt hlen hln hon hkn e1 x0 x1 x2 x3 x4 x5 x6 hbz0
                  go_wp2_with fail
                  go_still_tail 13, (by kernel_rfl)
                  change wpList _ _ _ _ _ wr.drew
                  clear y0 y1 hbz1 z1 f3 c1
                  go_wp2_with fail
                  refine (alHold wr.drew _ p (relK p s n k) n k _ (-1) (hP'.out _ hBd) hrt'.out hmay.out hxd.out (by have := h0.size; show base ≤ wr.heap.size; omega)).mono ?_
                  rintro e w9 ⟨rfl, V9, hV9, hx9, hst9⟩
                  have h09 := h0.drew.trans (hst9.below (B := W0.heap.size) (fun q hq => by
                    rcases hq with rfl | hq
                    · omega
                    · rw [e1'.out] at hq
                      change some gl2 = some q at hq
                      injection hq with hq
                      omega) h0.drew.size)
                  have hV9' := Lib.hid (sv_holds hV9 hV5'.out)
                  have hx9' := Lib.hid (show Bx w9 base bx 31 [] V9 (relK p s n (k + 1)) from hx9)
                  clear hx9 hst9 hV9 hxd hx' hV5' hVo hmay hrt' e1'
                  go_wp2_with fail
                  go_roundw
                  case rel => exact ⟨k + 1, V9, hV9'.out, by omega, by go_num, hx9'.out, h09⟩
                  case measure => simp [intOf]; omega
                · obtain rfl : k = (s.order n).lines.length := by omega
                  have hx2 := Lib.hid (show Bx wr base bx 31 [] V (takeOrders p (n + 1) (freedS s)) by rw [← relO_yes hc'.out hlt hkd'.out]; exact hx'.out)
                  go_wp2_with fail
                  go_roundw
                  case rel => exact ⟨n + 1, V, hV5'.out, by omega, by go_num, hx2.out, h0⟩
                  case measure => simp [intOf]; omega
            · have hq : (kd != 1) = true := by simpa using hk
              have h0a := h0.alloc h0.size (.cells #[.int .i64 kd, .slice (some ⟨gl, 0, none⟩) (s.order n).lines.length cl] 42)
              have hxa := Lib.hid (show Bx _ base bx 31 [] V (takeOrders p (n + 1) (freedS s)) by rw [relO_no (by rw [hkd'.out]; exact hk)]; exact (hx'.out.below ((Below.refl wr.heap.size wr).alloc (Nat.le_refl _) (.cells #[.int .i64 kd, .slice (some ⟨gl, 0, none⟩) (s.order n).lines.length cl] 42))))
              clear hk
              go_wp2_with fail
              go_roundw
              case rel => exact ⟨n + 1, V, hV5'.out, by omega, by go_num, hxa.out, h0a⟩
              case measure => simp [intOf]; omega
          · obtain rfl : n = s.orders.length := by omega
            have hB0 := hb0.trans (h0.mono hb0.size)
            have hx2 := Lib.hid (show Bx wr base bx 31 [] V (releaseS p s) from hx'.out)
            clear hx'
            have hbx9 := hR.out _ h0
            obtain ⟨b0, b1, b2, b3, b4, b5, b6⟩ := BoxAt.cells hx2.out.boxAt
            have hone9 := OwnSt.one hx2.out.own
            go_wp2_with (refine wpList_store_state rfl (.tmp 4) (.tmp 99) rfl rfl (w.heap.size + 1 + 1) nilSV V hbx9 rfl rfl hone9 (fun w9 hbox9 hg9 => ?_))
            have hO9 := OwnSt.keptBy hx2.out.own hg9 hbx9 (by decide) (by decide) (by decide) (by decide) (by decide) (by decide)
            obtain ⟨p0, p1, p2, p3, p4, p5, p6⟩ := BoxAt.cells hbox9
            have hfin9 : Below w.heap.size w w9 := Below.grown hB0 hg9 (Below.size hB0) (fun k hk => by injection hk with hk; omega)
            clear b0 b1 b2 b3 b4 b5 b6
            go_wp2_with fail
            exact bodyPost_ret (v := .tuple #[SV.val V, .int .i64 0]) (by simp [results, Tryz.results46, go_sem, SV.val, p0, p1, p2, p3, p4, p5, p6]) rfl (actOk hfin.out (hO9.from_ hle) hfin9)
  · have hne : (checkState p s != 0) = true := by simpa using hc
    have hfin := Lib.hid (release_bad hc)
    clear hc
    have hbx9 := hR.out _ h1
    go_wp2_with (refine wpList_store_state rfl (.tmp 4) (.tmp 19) rfl rfl (w.heap.size + 1 + 1) nilSV nilSV hbx9 rfl rfl rfl (fun w9 hbox9 hg9 => ?_))
    obtain ⟨p0, p1, p2, p3, p4, p5, p6⟩ := BoxAt.cells hbox9
    have hfin9 : Below w.heap.size w w9 := Below.grown hB1 hg9 (Below.size hB1) (fun k hk => by injection hk with hk; omega)
    go_wp2_with fail
    exact bodyPost_ret (v := .tuple #[nilSV.val, .int .i64 (checkState p s)]) (by simp [results, Tryz.results46, go_sem, SV.val, p0, p1, p2, p3, p4, p5, p6]) rfl (actErr hfin.out hfin9)
end Wh
