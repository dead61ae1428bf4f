/- Texts of the claim, joined: AllocA, MemS, BoxK, PlainK. -/
import Derived.Laws.Tables
import Derived.Test.YtijilfghfahgjaaQ14
import Derived.Test.YtijilfghfahgjaaQ15
import Derived.Test.YtijilfghfahgjaaQ12
import Derived.Test.YtijilfghfahgjaaQ03
import Derived.Test.YtijilfghfahgjaaQ13
import Derived.Test.YtijilfghfahgjaaQ10
namespace Wh
open Go Go.RowKit Go.Shelf Go.Proofs
attribute [local go_sem] run_indexAt_letter

section
variable {p : Plan} {s : State} {o k b : Nat} {m : Int}
theorem add_fits (h : Right p s) (f : Fits p s o k b m) : add s.holds ⟨o, k, b, m⟩ = ((hold1 s o k b m).holds, 0) := by
  have h1 := h.sane.holds
  have hkey := key_of h.sane f.ho f.hk f.hb
  obtain ⟨k1, k2⟩ := fits_kept h f
  have hf : holdFine ⟨o, k, b, m⟩ = true := fine_iff.2 ⟨hkey, by have := f.m1; simp only; omega⟩
  unfold add
  rw [h1, hf, if_neg (by simp), if_neg (by simp)]
  simp only
  rw [if_neg (by omega)]
  rfl
end
theorem nats_at {l : List Nat} {j : Nat} (hj : j < l.length) : intAt (nats l) j = (l[j] : Int) := by
  unfold intAt nats
  simp [hj]
theorem drop_at {l : List Nat} {j : Nat} (hj : j < l.length) : l.drop j = l[j] :: l.drop (j + 1) := List.drop_eq_getElem_cons hj

theorem OwnSt.lineCells {w : World} {base : Nat} {V : SV} {s : State} (h : OwnSt w base V s) {o k : Nat} (ho : o < s.orders.length) (hk : k < (s.order o).lines.length) {gl n c : Nat} (hv : V.line o = .slice (some ⟨gl, 0, none⟩) n c) : gl < w.heap.size ∧
    w.cell? ⟨gl, k * 4, none⟩ = some (.int .i64 (s.line o k).good) ∧ w.cell? ⟨gl, k * 4 + 1, none⟩ = some (.int .i64 (s.line o k).want) ∧ w.cell? ⟨gl, k * 4 + 2, none⟩ = some (.int .i64 (s.line o k).got) ∧ w.cell? ⟨gl, k * 4 + 3, none⟩ = some (.int .i64 (s.line o k).back) := by
  obtain ⟨g', c', cur, e1, _, e3, f⟩ := h.lineAt ho hk
  rw [hv] at e1
  injection e1 with e1
  injection e1 with e1
  injection e1 with e1
  subst e1
  exact ⟨e3.lt, f⟩
/-- What holding in a state of one's own does. -/
def HoldPost (p : Plan) (s : State) (o k : Nat) (n but : Int) (w : World) (base b : Nat) (t : TypeId) (rst : List Value) (V : SV) (e : Ending) (w' : World) : Prop :=
  e = .returned (.int .i64 (takeS p s o k n but).2) ∧ ∃ V', V' = { V with holds := V'.holds } ∧ Bx w' base b t rst V' (takeS p s o k n but).1 ∧ Step (fun j => j = b ∨ (V.line o).ownBlock = some j) w w'

set_option maxHeartbeats 8000000 in
set_option maxRecDepth 100000 in
theorem alHold (w : World) (v : Value) (p : Plan) (s : State) (o k : Nat) (n but : Int) {base b : Nat} {t : TypeId} {rst : List Value} {V : SV} (hp : PlanV w w.heap.size v p) (hr : Right p s) (hm : May s o k n) (hB : Bx w base b t rst V s) (hbase : base ≤ w.heap.size) :
    Calls Try.prog 58 #[v, .pointer (some ⟨b, 0, none⟩), .int .i64 o, .int .i64 k, .int .i64 n, .int .i64 but] w (HoldPost p s o k n but w base b t rst V) := by
  obtain ⟨Ab, cb, As, cs, rfl, hP', hBn, hSz, hlb, hls⟩ := openPl hp
  go_enter Try.func58, Try.ntmps58
  go_wp2_with fail
  obtain ⟨W0, hW0, hb0, hsz0, hK⟩ := boxesPl w p Ab cb As cs
  rw [hW0]
  clear hW0
  have hz := hr.sane.plan
  obtain ⟨y0, y1, hbz1⟩ := hK.out W0 (Below.refl _ _)
  go_wp2_with fail
  refine (planWayOwn _ _ p (hP'.out _ hb0)).mono ?_
  rintro e W1 ⟨uw, rfl, hway, h1⟩
  rw [hz] at hway ⊢
  rw [if_pos rfl] at hway
  obtain ⟨Aw, cw, rfl⟩ := hway.isSlice
  rw [nats_length] at hway ⊢
  have hBlt := hB.lt
  have hb01 := hb0.trans (h1.mono hb0.size)
  have hB1 := Lib.hid (hB.below hb01)
  obtain ⟨gl, cl, curl, e1, hgl, hblk, f0, f1, f2, f3⟩ := hB1.out.own.lineAt hm.ho hm.hk
  have hll := ((hB.own.line o hm.ho).size gl (by rw [e1]; rfl)).2
  obtain ⟨go, co, curo, eo, hgo, hblko, z0, z1⟩ := hB1.out.own.orderAt hm.ho
  obtain ⟨c0, c1, c2, c3, c4, c5, c6⟩ := hB1.out.cells
  rw [eo] at c1
  rw [e1] at z1
  have hon : (o : Int) < (s.orders.length : Int) := by have := hm.ho; omega
  have hkn : (k : Int) < ((s.order o).lines.length : Int) := by have := hm.hk; omega
  have hm' := Lib.hid hm
  have hr' := Lib.hid hr
  have hway' := Lib.hid hway
  have hlw : (way p).length ≤ 6 := by rw [way_length]; exact hr.sane.counts.2.1
  clear hm hr hway hB hz y0 y1 hP' hBn hSz hK
  go_wp2_with fail
  clear c0 c1 c2 c3 c4 c5 c6 z0 z1 f0 f1 f2 f3 hon hkn eo hblko hblk
  have hl0 : W0.heap.size ≤ W1.heap.size := h1.size
  go_loopw [36, 4, 17, 18] (fun i n' _ _ wr => ∃ (j : Nat) (s' : State) (m : Int) (V' : SV), V' = { V with holds := V'.holds } ∧ j ≤ (way p).length ∧ i = .int .i64 j ∧ n' = .int .i64 m ∧ Right p s' ∧ May s' o k m ∧ takeGo o k but ((way p).drop j) s' m = takeS p s o k n but ∧
    Bx wr base b t rst V' s' ∧ Step (fun j => j = b ∨ (V.line o).ownBlock = some j) W1 wr) (fun i _ _ _ _ => (way p).length - (intOf i).toNat)
  case atStart => exact ⟨0, s, n, V, rfl, Nat.zero_le _, rfl, rfl, hr'.out, hm'.out, rfl, hB1.out, Step.refl _ _⟩
  case round =>
    clear hr' hm' hB1
    obtain ⟨j, s', m, V', hsb, hj, rfl, rfl, hr, hm, htg, hBx, hst⟩ := hrel
    have hr' := Lib.hid hr
    have hm' := Lib.hid hm
    have htg' := Lib.hid htg
    have hBx' := Lib.hid hBx
    have hst' := Lib.hid hst
    have hks := Lib.hid (show ∀ j, (j = b ∨ (V.line o).ownBlock = some j) → j < W0.heap.size from fun j h => by
      have := hb0.size
      rcases h with rfl | h
      · omega
      · rw [e1] at h
        change some gl = some j at h
        injection h with h
        omega)
    by_cases hlt : j < (way p).length
    · have hwb := way_bins p _ (List.getElem_mem hlt)
      have hwr := hway'.out.step hst (fun k hk hks' => absurd (hks.out k hks') (by have := (hway'.out.size k hk).1; omega))
      obtain ⟨gw, cw', curw, ew, hgw, hbw, zw⟩ := OwnSt.intAtOwn hwr (g := j) (by rw [nats_length]; exact hlt)
      rw [nats_at hlt] at zw
      obtain ⟨wb, hwbe⟩ : ∃ x, x = (way p)[j] := ⟨_, rfl⟩
      rw [← hwbe] at zw hwb
      have hwbe' := Lib.hid hwbe
      clear hwbe
      obtain rfl : Aw = some ⟨gw, 0, none⟩ := by injection ew
      clear ew
      obtain ⟨hgll, f0, f1, f2, f3⟩ := hBx.own.lineCells hm.ho hm.hk (show V'.line o = _ by rw [hsb]; exact e1)
      obtain ⟨c0, c1, c2, c3, c4, c5, c6⟩ := hBx.cells
      have q1 := fun o d os => cells_wld (w := wr) (b := b) hBx.lt o d os
      have q2 := fun o d os => cells_wld (w := wr) (b := gl) hgll o d os
      have hV2 := Lib.hid (fun d os => (hBx.own.view hr.sane).up (below_wld wr d os) (below_wld wr d os).size)
      have hgood := Lib.hid (hr.sane.line hm.ho hm.hk)
      have hjl : (j : Int) < ((way p).length : Int) := by omega
      have hr2 := Lib.hid hr.sane
      have hbb := Lib.hid (show 0 ≤ (wb : Int) ∧ (wb : Int) < p.bins.length by omega)
      have hsb' := Lib.hid hsb
      clear hr hm htg hBx hst hwr hbw hsb
      go_wp2_with fail
      refine wp_region_wld (by kernel_rfl) (by kernel_rfl) ?_
      repeat (go_big_quiet_step ((go_at_call 38; refine calls_wld (sLeft _ _ p s' wb _ (hV2.out _ _) hr2.out hbb.out hgood.out.1))))
      refine wpQuiet_nil ?_
      intro W6 hw'
      have hb6 := below_of_cls hw'
      clear hw'
      generalize hmm : (if avail s' ↑wb (s'.line o k).good < m then avail s' ↑wb (s'.line o k).good else m) = mm
      have hmin : mm = min m (avail s' wb (s'.line o k).good) := by rw [← hmm]; split <;> omega
      have hav := hm'.out.avail hr'.out hwb
      have hmb := hm'.out.back
      have hm0 := hm'.out.n0
      have hgb := hgood.out
      have hmr : mm ≤ m ∧ m ≤ 200 ∧ 0 ≤ mm ∧ mm ≤ avail s' wb (s'.line o k).good := by omega
      have hbr : 0 ≤ (s'.line o k).back ∧ (s'.line o k).back ≤ 200 := by omega
      have hst6 := Lib.hid (hst'.out.trans (.of_below hb6))
      have hBx6 := Lib.hid (hBx'.out.below hb6)
      have hmin' := Lib.hid hmin
      have hdr : takeGo o k but (wb :: (way p).drop (j + 1)) s' m = takeS p s o k n but := by rw [hwbe'.out, ← drop_at hlt]; exact htg'.out
      have hdr' := Lib.hid hdr
      clear hmm hmin hav hmb hm0 hgb hdr q1 q2 zw f0 f1 f2 f3 c0 c1 c2 c3 c4 c5 c6 hV2
      by_cases hsk : (wb : Int) = but ∨ mm < 1
      · have htg2 := Lib.hid (show takeGo o k but ((way p).drop (j + 1)) s' m = takeS p s o k n but by rw [← hdr'.out, takeGo_skip (by rw [← hmin'.out]; exact hsk)])
        by_cases hbut : (wb : Int) = but
        · have hq : ((wb : Int) == but) = true := by simpa using hbut
          clear hsk hbut
          go_wp2_with fail
          go_roundw
          case rel => exact ⟨j + 1, s', m, V', hsb'.out, by omega, by go_num, rfl, hr'.out, hm'.out, htg2.out, hBx6.out, hst6.out⟩
          case measure => simp [intOf]; omega
        · have hq : ((wb : Int) == but) = false := by simpa using hbut
          have hlt1 : mm < 1 := hsk.resolve_left hbut
          clear hsk hbut
          go_wp2_with fail
          go_roundw
          case rel => exact ⟨j + 1, s', m, V', hsb'.out, by omega, by go_num, rfl, hr'.out, hm'.out, htg2.out, hBx6.out, hst6.out⟩
          case measure => simp [intOf]; omega
      · have hbut : ¬ (wb : Int) = but := fun h => hsk (.inl h)
        have hge : 1 ≤ mm := by omega
        have hfit := Lib.hid (hm'.out.fits hwb hge hmr.1 hmr.2.2.2)
        have htg2 := Lib.hid (show takeGo o k but ((way p).drop (j + 1)) (hold1 s' o k wb mm) (m - mm) = takeS p s o k n but by rw [← hdr'.out, takeGo_one hbut (by rw [← hmin'.out]; exact hge), ← hmin'.out])
        have hq : ((wb : Int) == but) = false := by simpa using hbut
        obtain ⟨c0, c1, c2, c3, c4, c5, c6⟩ := hBx6.out.cells
        have hlen := ok_len72 hr2.out.holds
        have hble : base ≤ W6.heap.size := Nat.le_trans hbase (Nat.le_trans hb01.size (Nat.le_trans hst'.out.size hb6.size))
        clear hsk hbut
        go_wp2_with fail
        refine (hdAdd _ _ s'.holds ⟨o, k, wb, mm⟩ (hBx6.out.own.holds.sl (by omega))).mono ?_
        rintro e W7 ⟨u7, rfl, hu7, hb7⟩
        rw [add_fits hr'.out hfit.out] at hu7 ⊢
        have hBx7 := Lib.hid (hBx6.out.below hb7)
        have hu7' := Lib.hid (hu7.from_ hble)
        obtain ⟨A7, c7, rfl⟩ := hu7.isSlice
        clear hu7 c0 c1 c2 c3 c4 c5 c6
        go_wp2_with (refine wp_st_holds rfl (.tmp 73) (.tmp 70) rfl rfl A7 _ c7 _ hBx7.out rfl rfl hu7'.out (fun w8 hBx8 hst8 => ?_); refine Hid.out ?_)
        unfold Hid
        obtain ⟨hgll8, f0, f1, f2, f3⟩ := hBx8.own.lineCells (s := { s' with holds := (hold1 s' o k wb mm).holds }) hm'.out.ho hm'.out.hk (show V'.line o = _ by rw [hsb'.out]; exact e1)
        have hBx8' := Lib.hid hBx8
        have hw1 : IntKind.i64.wrap ((s'.line o k).back - mm) = (s'.line o k).back - mm := IntWalk.i64_in _ (by omega)
        have hw2 : IntKind.i64.wrap (m - mm) = m - mm := IntWalk.i64_in _ (by omega)
        have f3' : w8.cell? ⟨gl, k * 4 + 3, none⟩ = some (.int .i64 (s'.line o k).back) := f3
        clear hBx8 f0 f1 f2 f3
        go_wp2_with (refine wp_st_line rfl (.tmp 81) (.tmp 79) rfl rfl (j := 3) (y := { s'.line o k with back := (s'.line o k).back - mm }) hBx8'.out hm'.out.ho hm'.out.hk (show V'.line o = _ by rw [hsb'.out]; exact e1) (by decide) rfl rfl rfl (fun w9 hBx9 hst9 => ?_); refine Hid.out ?_)
        unfold Hid
        have hBx9' := Lib.hid (show Bx w9 base b t rst { V' with holds := .slice A7 (hold1 s' o k wb mm).holds.length c7 } (hold1 s' o k wb mm) from hBx9)
        have hst9' := Lib.hid (((hst6.out.trans (.of_below hb7)).trans (hst8.mono fun _ h => .inl h)).trans (hst9.mono fun q hq => .inr (by rw [hq, e1]; rfl)))
        clear f3' hBx9 hst9 hst8
        go_wp2_with fail
        go_roundw
        case rel => exact ⟨j + 1, hold1 s' o k wb mm, m - mm, _, by rw [hsb'.out], by omega, by go_num, rfl, hold1_right hr'.out hfit.out, hm'.out.held (Held.one hr'.out hfit.out) hmr.1, htg2.out, hBx9'.out, hst9'.out⟩
        case measure => simp [intOf]; omega
    · obtain rfl : j = (way p).length := by omega
      have hfin := Lib.hid (show (s', m) = takeS p s o k n but by rw [← htg'.out, List.drop_length]; rfl)
      have hsb' := Lib.hid hsb
      clear hr hm htg hBx hst hsb
      go_wp2_with fail
      go_ret
      exact ⟨ret_int (by rw [← hfin.out]), V', hsb'.out, by rw [← hfin.out]; exact hBx'.out, (Step.of_below hb01).trans hst'.out⟩
end Wh
namespace Wh
open Go Go.RowKit

section
variable {P : Program}
theorem run_storeVar_blk (w : World) (g o : Nat) (e ty : TypeId) (cur cs : List Value) (hg : Blk w g e cur) (hfit : o + cs.length ≤ cur.length) (hi : (P.info? ty).map (·.size) = some cs.length) (h1 : ∀ v ∈ cs, v.oneCell' = true) :
    (storeVar ty ⟨g, o, none⟩ (.agg cs.toArray)).run P w = .ok () (w.setRow g (spl cur o cs).toArray) := by
  have := run_storeCells_at P g o e cs 0 cur.toArray w hg (by simpa using hfit) h1
  cases hq : P.info? ty with
  | none => simp [hq] at hi
  | some i =>
    have hs : i.size = cs.length := by simpa [hq] using hi
    simp only [Nat.add_zero] at this
    simp [storeVar, Go.sizeOf, typeInfo, hq, Value.cells, hs, this, spl]
theorem flat_put {α : Type} (enc : α → List Value) (k : Nat) (hk : ∀ x, (enc x).length = k) {l : List α} {i : Nat} (hi : i < l.length) (y : α) {cur : List Value} (hc : l.length * k ≤ cur.length) (ht : cur.take (l.length * k) = l.flatMap enc) :
    (spl cur (i * k) (enc y)).take (l.length * k) = (l.set i y).flatMap enc := by
  have h1 : (i + 1) * k ≤ l.length * k := Nat.mul_le_mul_right _ (by omega)
  have h2 : i * k + k = (i + 1) * k := by rw [Nat.add_mul]; omega
  have e1 : l.set i y = l.take i ++ [y] ++ l.drop (i + 1) := by
    rw [List.set_eq_take_append_cons_drop, if_pos hi, List.append_assoc]
    rfl
  rw [e1, List.flatMap_append, List.flatMap_append, List.flatMap_singleton, ← flat_take enc k hk, ← flat_drop enc k hk, ← ht]
  have e2 : (cur.take (i * k) ++ enc y).length = (i + 1) * k := by rw [List.length_append, List.length_take, hk, Nat.min_eq_left (by omega), h2]
  unfold spl
  rw [hk, h2, List.take_append, List.take_of_length_le (by rw [e2]; exact h1), e2, List.take_take, Nat.min_eq_left (by omega), List.drop_take]
theorem Own.put {α : Type} {enc : α → List Value} {size : Nat} {e : TypeId} {w : World} {base g n c : Nat} {l : List α} (h : Own enc size e w base (.slice (some ⟨g, 0, none⟩) n c) l) (hk : ∀ x, (enc x).length = size) {i : Nat} (hi : i < l.length) (y : α)
    {ty : TypeId} (hty : (P.info? ty).map (·.size) = some size) (h1 : ∀ v ∈ enc y, v.oneCell' = true) :
    ∃ w', (storeVar ty ⟨g, i * size, none⟩ (.agg (enc y).toArray)).run P w = .ok () w' ∧ Own enc size e w' base (.slice (some ⟨g, 0, none⟩) n c) (l.set i y) ∧ w.grownBy w' (some g) := by
  obtain ⟨g', cap, cur, e1, hb, hg, h2, h3, h4, h5⟩ := h.row (by omega)
  injection e1 with e1 e2 e3
  injection e1 with e1
  injection e1 with e1
  subst e1 e2 e3
  have hle : l.length * size ≤ cur.length := by rw [h4]; exact Nat.mul_le_mul_right _ h2
  have hfit : i * size + (enc y).length ≤ cur.length := by
    rw [hk]
    have : (i + 1) * size ≤ l.length * size := Nat.mul_le_mul_right _ (by omega)
    rw [Nat.add_mul] at this
    omega
  refine ⟨_, run_storeVar_blk w g (i * size) e ty cur (enc y) hg hfit (by rw [hk]; exact hty) h1, ?_, grown_row w g _⟩
  have := Own.of_row (l := l.set i y) hk hb (hg.row (spl cur (i * size) (enc y))) (by rw [List.length_set]; exact h2) h3 (by rw [spl_length hfit]; exact h4) (by rw [List.length_set]; exact flat_put enc size hk hi y hle h5)
  rwa [List.length_set] at this
/-- 's[i] = x', a struct. -/
theorem wpList_put {α : Type} {enc : α → List Value} {size : Nat} {e : TypeId} {w : World} {base g n c : Nat} {l : List α} {ops : Array Oper} {rest : List Oper} {o : Oper} {a : Go.Act} {Q : Exit → Go.Act → World → Prop} (hgd : o.guard = none) (x z : Operand) (ty : TypeId) (ho : o.op = .store ty x z) (hn : o.dst = none)
    (h : Own enc size e w base (.slice (some ⟨g, 0, none⟩) n c) l) (hk : ∀ x, (enc x).length = size) {i : Nat} (hi : i < l.length) (y : α) (hty : (P.info? ty).map (·.size) = some size) (h1 : ∀ v ∈ enc y, v.oneCell' = true)
    (hx : a.eval x = .pointer (some ⟨g, i * size, none⟩)) (hy : a.eval z = .agg (enc y).toArray)
    (hK : ∀ w', Own enc size e w' base (.slice (some ⟨g, 0, none⟩) n c) (l.set i y) → w.grownBy w' (some g) → wpList P ops Q rest a w') : wpList P ops Q (o :: rest) a w :=
  wpList_plain hgd fun K hK' => by
    obtain ⟨w', hr, h2, h3⟩ := h.put hk hi y hty h1
    unfold Oper.wp execOp
    simp only [ho, hx, hy, Instr.storeAt, Instr.sureAddr, Sem.run_bind, Sem.run_pure, Result.andThen_ok, hr]
    have hk := hK' (a.put o.dst undef) w' (by rw [hn]; exact hK _ h2 h3)
    exact hk
/-- The row's head alone, what lies behind it cleared. -/
theorem Own.cut {α : Type} {enc : α → List Value} {size : Nat} {e : TypeId} {w : World} {base g n c : Nat} {l : List α} (h : Own enc size e w base (.slice (some ⟨g, 0, none⟩) n c) l) (hk : ∀ x, (enc x).length = size) {i : Nat} (hi : i < l.length)
    {t : TypeId} {z : Value} (ht : P.underlying t = some (.slice e)) (hv : ∀ w, (zeroValue e).run P w = .ok z w) (hz : z.cells.size = size) (h1 : ∀ v ∈ z.cells, v.oneCell' = true) :
    ∃ w', (∀ ty c', (Builtin.clear_ #[t] ty #[.slice (some ⟨g, i * size, none⟩) (n - i) c']).run P w = .ok (.tuple #[]) w') ∧ Own enc size e w' base (.slice (some ⟨g, 0, none⟩) i c) (l.take i) ∧ w.grownBy w' (some g) := by
  obtain ⟨g', cap, cur, e1, hb, hg, h2, h3, h4, h5⟩ := h.row (by omega)
  injection e1 with e1 e2 e3
  injection e1 with e1
  injection e1 with e1
  subst e1 e2 e3
  have hle : l.length * size ≤ cur.length := by rw [h4]; exact Nat.mul_le_mul_right _ h2
  have hsp : i * size + (l.length - i) * size = l.length * size := by rw [← Nat.add_mul]; congr 1; omega
  have hzl : (Builtin.zeroCells z.cells (l.length - i)).toList.length = (l.length - i) * size := by rw [Array.length_toList, zeroCells_length, hz]
  refine ⟨_, fun ty c' => run_clear_blk (P := P) w t e ty z ht hv h1 g (i * size) (l.length - i) c' cur hg (by omega) (by rw [hz]; omega), ?_, grown_row w g _⟩
  have hlen : (l.take i).length = i := by rw [List.length_take]; omega
  have := Own.of_row (l := l.take i) hk hb (hg.row (spl cur (i * size) (Builtin.zeroCells z.cells (l.length - i)).toList)) (by rw [hlen]; omega) h3 (by rw [spl_length (by rw [hzl]; omega)]; exact h4) (by
    rw [hlen, spl_lo (by omega), ← flat_take enc size hk, ← h5, List.take_take, Nat.min_eq_left (by omega)])
  rwa [hlen] at this
end
end Wh
namespace Wh
open Go Go.RowKit Go.Proofs

namespace OwnSt
variable {w w' : World} {base : Nat} {V : SV} {s : State}
end OwnSt

section
variable {ops : Array Oper} {rest : List Oper} {o : Oper} {a : Act} {w : World} {Q : Exit → Act → World → Prop} {base b : Nat} {t : TypeId} {cs : List Value} {V : SV} {s : State}
/-- An order's kind. -/
theorem wp_st_kind (hgd : o.guard = none) (x z : Operand) (ho : o.op = .store 3 x z) (hn : o.dst = none) {i go n c : Nat} {q : Int} (hB : Bx w base b t cs V s) (hi : i < s.orders.length)
    (hv : V.orders = .slice (some ⟨go, 0, none⟩) n c) (hx : a.eval x = .pointer (some ⟨go, i * 2, none⟩)) (hz : a.eval z = .int .i64 q)
    (h : ∀ w', Bx w' base b t cs V { s with orders := s.orders.set i { s.order i with kind := q } } → Step (· = go) w w' → wpList Try.prog ops Q rest a w') : wpList Try.prog ops Q (o :: rest) a w :=
  wpList_plain hgd fun K hK => by
    obtain ⟨g', c', cur, e1, _, e3, f0, f1⟩ := hB.own.orderAt hi
    rw [hv] at e1
    injection e1 with e1
    injection e1 with e1
    injection e1 with e1
    subst e1
    obtain ⟨h1, h2⟩ := hB.own.setKind hi hv q
    have h3 := h _ ⟨hB.off e3 hB.ty.h3 h2, h1, hB.ty⟩ (.of_grown h2 fun k hk => by injection hk with hk; exact hk.symm)
    have hf := e3.frozen (i * 2)
    clear h hB h1 h2 f1 e3
    unfold Oper.wp
    simp only [execOp, ho, hx, hz]
    go_simp
    exact hK _ _ h3
/-- A number of a shelf. -/
theorem wp_st_on (hgd : o.guard = none) (x z : Operand) (ho : o.op = .store 3 x z) (hn : o.dst = none) {i g gr n c : Nat} {q : Int} (hB : Bx w base b t cs V s) (hi : i < s.on.length) (hg : g < (rowAt s.on i).length)
    (hv : V.row i = .slice (some ⟨gr, 0, none⟩) n c) (hx : a.eval x = .pointer (some ⟨gr, g, none⟩)) (hz : a.eval z = .int .i64 q)
    (h : ∀ w', Bx w' base b t cs V { s with on := setCell s.on i g q } → Step (· = gr) w w' → wpList Try.prog ops Q rest a w') : wpList Try.prog ops Q (o :: rest) a w :=
  wpList_plain hgd fun K hK => by
    obtain ⟨_, _, _, g', c', cur, _, _, _, _, e1, _, e3, f0⟩ := hB.own.onAt hi hg
    rw [hv] at e1
    injection e1 with e1
    injection e1 with e1
    injection e1 with e1
    subst e1
    obtain ⟨h1, h2⟩ := hB.own.setOn hi hg hv q
    have h3 := h _ ⟨hB.off e3 hB.ty.h2 h2, h1, hB.ty⟩ (.of_grown h2 fun k hk => by injection hk with hk; exact hk.symm)
    have hf := e3.frozen g
    clear h hB h1 h2 e3
    unfold Oper.wp
    simp only [execOp, ho, hx, hz]
    go_simp
    exact hK _ _ h3
theorem wp_st_out (hgd : o.guard = none) (x z : Operand) (ho : o.op = .store 3 x z) (hn : o.dst = none) {g gr n c : Nat} {q : Int} (hB : Bx w base b t cs V s) (hg : g < s.out.length)
    (hv : V.out = .slice (some ⟨gr, 0, none⟩) n c) (hx : a.eval x = .pointer (some ⟨gr, g, none⟩)) (hz : a.eval z = .int .i64 q)
    (h : ∀ w', Bx w' base b t cs V { s with out := s.out.set g q } → Step (· = gr) w w' → wpList Try.prog ops Q rest a w') : wpList Try.prog ops Q (o :: rest) a w :=
  wpList_plain hgd fun K hK => by
    obtain ⟨g', c', cur, e1, _, e3, f0⟩ := OwnSt.intAtOwn hB.own.out hg
    rw [hv] at e1
    injection e1 with e1
    injection e1 with e1
    injection e1 with e1
    subst e1
    obtain ⟨h1, h2⟩ := hB.own.setOut hg hv q
    have h3 := h _ ⟨hB.off e3 hB.ty.h2 h2, h1, hB.ty⟩ (.of_grown h2 fun k hk => by injection hk with hk; exact hk.symm)
    have hf := e3.frozen g
    clear h hB h1 h2 e3
    unfold Oper.wp
    simp only [execOp, ho, hx, hz]
    go_simp
    exact hK _ _ h3
end
end Wh
namespace Wh

/-- t is what comes of s by holding, once each, for the lines of S. -/
structure Taken (p : Plan) (S : Nat → Nat → Prop) (s t : State) : Prop where
  right : Right p t
  on : t.on = s.on
  moves : t.moves = s.moves
  inn : t.inn = s.inn
  out : t.out = s.out
  fixed : t.fixed = s.fixed
  orders : t.orders.length = s.orders.length
  kind : ∀ o, (t.order o).kind = (s.order o).kind
  lines : ∀ o, (t.order o).lines.length = (s.order o).lines.length
  line : ∀ o k, (t.line o k).good = (s.line o k).good ∧ (t.line o k).want = (s.line o k).want ∧ (t.line o k).got = (s.line o k).got
  less : ∀ b g : Int, avail t b g ≤ avail s b g
  back : ∀ o k, ¬ S o k → (t.line o k).back = (s.line o k).back
  kept : ∀ o k : Nat, ¬ S o k → Wh.kept t.holds o k = Wh.kept s.holds o k
  done : ∀ o k, S o k → o < s.orders.length → k < (s.order o).lines.length → (s.order o).kind = 1 → 0 < (t.line o k).back → ∀ b, b < p.bins.length → avail t b (s.line o k).good = 0
  none : ∀ o k, S o k → o < s.orders.length → k < (s.order o).lines.length → (∀ b : Nat, b < p.bins.length → avail s b (s.line o k).good = 0) → Wh.kept t.holds o k = Wh.kept s.holds o k
theorem line_avail {p : Plan} {s : State} (h : Right p s) {o k b : Nat} (ho : o < s.orders.length) (hk : k < (s.order o).lines.length) (hb : b < p.bins.length) : 0 ≤ avail s b (s.line o k).good := by
  have h1 := (h.sane.line ho hk).1
  obtain ⟨g, hg⟩ : ∃ g : Nat, (s.line o k).good = g := ⟨(s.line o k).good.toNat, by omega⟩
  rw [hg] at h1 ⊢
  exact (h.avail_range hb (by omega)).1
namespace Taken
variable {p : Plan} {S S' : Nat → Nat → Prop} {s t u : State}
theorem same (h : Right p s) (hS : ∀ o k, S o k → o < s.orders.length → k < (s.order o).lines.length → (s.order o).kind ≠ 1) : Taken p S s s :=
  ⟨h, rfl, rfl, rfl, rfl, rfl, rfl, fun _ => rfl, fun _ => rfl, fun _ _ => ⟨rfl, rfl, rfl⟩, fun _ _ => Int.le_refl _, fun _ _ _ => rfl, fun _ _ _ => rfl, fun o k hs ho hk hkd => absurd hkd (hS o k hs ho hk), fun _ _ _ _ _ _ => rfl⟩
theorem mono (h : Taken p S s t) (h1 : ∀ o k, S o k → S' o k) (h2 : ∀ o k, o < s.orders.length → k < (s.order o).lines.length → S' o k → S o k) : Taken p S' s t :=
  { h with back := fun o k hn => h.back o k fun hs => hn (h1 o k hs), kept := fun o k hn => h.kept o k fun hs => hn (h1 o k hs), done := fun o k hs ho hk => h.done o k (h2 o k ho hk hs) ho hk, none := fun o k hs ho hk => h.none o k (h2 o k ho hk hs) ho hk }
theorem trans (h : Taken p S s t) (h' : Taken p S' t u) (hd : ∀ o k, S o k → S' o k → False) : Taken p (fun o k => S o k ∨ S' o k) s u := by
  refine ⟨h'.right, h'.on.trans h.on, h'.moves.trans h.moves, h'.inn.trans h.inn, h'.out.trans h.out, h'.fixed.trans h.fixed, h'.orders.trans h.orders, fun o => (h'.kind o).trans (h.kind o), fun o => (h'.lines o).trans (h.lines o), fun o k => ?_,
    fun b g => Int.le_trans (h'.less b g) (h.less b g), fun o k hn => ?_, fun o k hn => ?_, fun o k hs ho hk hkd hb b hbn => ?_, fun o k hs ho hk hz => ?_⟩
  · obtain ⟨a1, a2, a3⟩ := h.line o k
    obtain ⟨b1, b2, b3⟩ := h'.line o k
    exact ⟨b1.trans a1, b2.trans a2, b3.trans a3⟩
  · exact (h'.back o k fun hs => hn (.inr hs)).trans (h.back o k fun hs => hn (.inl hs))
  · exact (h'.kept o k fun hs => hn (.inr hs)).trans (h.kept o k fun hs => hn (.inl hs))
  · have ho' : o < t.orders.length := by rw [h.orders]; exact ho
    have hk' : k < (t.order o).lines.length := by rw [h.lines]; exact hk
    rcases hs with hs | hs
    · rw [h'.back o k (hd o k hs)] at hb
      have h1 := h.done o k hs ho hk hkd hb b hbn
      have h2 := h'.less b (s.line o k).good
      have h3 := line_avail h'.right (o := o) (k := k) (b := b) (by rw [h'.orders]; exact ho') (by rw [h'.lines]; exact hk') hbn
      rw [(h'.line o k).1, (h.line o k).1] at h3
      omega
    · have := h'.done o k hs ho' hk' (by rw [h.kind]; exact hkd) hb b hbn
      rwa [(h.line o k).1] at this
  · have ho' : o < t.orders.length := by rw [h.orders]; exact ho
    have hk' : k < (t.order o).lines.length := by rw [h.lines]; exact hk
    rcases hs with hs | hs
    · exact (h'.kept o k (hd o k hs)).trans (h.none o k hs ho hk hz)
    · rw [h'.none o k hs ho' hk' (fun b hbn => by
        have h1 := hz b hbn
        have h2 := h.less b (s.line o k).good
        have h3 := line_avail h.right ho' hk' hbn
        rw [(h.line o k).1] at h3 ⊢
        omega)]
      exact h.kept o k fun hs' => hd o k hs' hs
end Taken

theorem takeGo_nothing {o k : Nat} {but : Int} : ∀ {bs : List Nat} {s : State} {n : Int}, (∀ b ∈ bs, avail s b (s.line o k).good = 0) → takeGo o k but bs s n = (s, n)
  | [], _, _, _ => rfl
  | b :: r, s, n, h => by
    have := h b (List.mem_cons_self ..)
    rw [takeGo_skip (.inr (by omega)), takeGo_nothing fun x hx => h x (List.mem_cons_of_mem _ hx)]
theorem sane_back {p : Plan} {s : State} (h : Right p s) {o k : Nat} (ho : o < s.orders.length) (hk : k < (s.order o).lines.length) (hkd : (s.order o).kind = 1) : May s o k (s.line o k).back :=
  ⟨ho, hk, hkd, (h.sane.line ho hk).2.2.2.1, Int.le_refl _⟩
theorem takeAll_taken {p : Plan} {s : State} {o k : Nat} (h : Right p s) (ho : o < s.orders.length) (hk : k < (s.order o).lines.length) (hkd : (s.order o).kind = 1) : Taken p (fun o' k' => o' = o ∧ k' = k) s (takeAll p s o k) := by
  have hm := sane_back h ho hk hkd
  obtain ⟨h1, h2, h3⟩ := takeS_held (but := -1) h hm
  change Held p s (takeAll p s o k) o k _ at h1
  have hbk : ((takeAll p s o k).line o k).back = (takeS p s o k (s.line o k).back (-1)).2 := by
    rw [h1.back, if_pos ⟨rfl, rfl⟩]
    omega
  refine ⟨h1.right, h1.on, h1.moves, h1.inn, h1.out, h1.fixed, h1.orders, h1.kind, h1.lines, h1.line, h1.avail_le, fun o' k' hn => ?_, fun o' k' hn => ?_, fun o' k' hs ho' hk' hkd' hb b hbn => ?_, fun o' k' hs ho' hk' hz => ?_⟩
  · rw [h1.back, if_neg hn, Int.sub_zero]
  · rw [h1.kept, if_neg (by omega), Int.add_zero]
  · obtain ⟨rfl, rfl⟩ := hs
    exact takeS_left (but := -1) h hm (by rw [← hbk]; exact hb) hbn (by omega)
  · obtain ⟨rfl, rfl⟩ := hs
    have : takeAll p s o' k' = s := by
      unfold takeAll takeS
      rw [takeGo_nothing (fun b hb => hz b (way_bins p b hb))]
    rw [this]
theorem takeLines_taken {p : Plan} {s : State} {o : Nat} (h : Right p s) (ho : o < s.orders.length) (hkd : (s.order o).kind = 1) : ∀ n, n ≤ (s.order o).lines.length → Taken p (fun o' k' => o' = o ∧ k' < n) s (takeLines p o n s)
  | 0, _ => (Taken.same (S := fun o' k' => o' = o ∧ k' < 0) h fun _ _ hs => by omega)
  | n + 1, hn => by
    have h1 := takeLines_taken h ho hkd n (by omega)
    have h2 := takeAll_taken h1.right (o := o) (k := n) (by rw [h1.orders]; exact ho) (by rw [h1.lines]; omega) (by rw [h1.kind]; exact hkd)
    exact (h1.trans h2 (fun o' k' hs hs' => by omega)).mono (fun o' k' hs => by omega) (fun o' k' _ _ hs => by omega)
theorem takeOrder_taken {p : Plan} {s : State} {o : Nat} (h : Right p s) (ho : o < s.orders.length) : Taken p (fun o' _ => o' = o) s (takeOrder p s o) := by
  unfold takeOrder
  split
  · rename_i hkd
    exact (takeLines_taken h ho hkd _ (Nat.le_refl _)).mono (fun o' k' hs => hs.1) (fun o' k' _ hk hs => ⟨hs, by rw [hs] at hk; exact hk⟩)
  · rename_i hkd
    exact Taken.same h fun o' k' hs _ _ => by rw [hs]; exact hkd
theorem takeOrders_taken {p : Plan} {s : State} (h : Right p s) : ∀ n, n ≤ s.orders.length → Taken p (fun o _ => o < n) s (takeOrders p n s)
  | 0, _ => (Taken.same (S := fun o _ => o < 0) h fun _ _ hs => by omega)
  | n + 1, hn => by
    have h1 := takeOrders_taken h n (by omega)
    have h2 := takeOrder_taken h1.right (o := n) (by rw [h1.orders]; omega)
    exact (h1.trans h2 (fun o' k' hs hs' => by omega)).mono (fun o' k' hs => by omega) (fun o' k' _ _ hs => by omega)

-- orders that are freed
def freedS (s : State) : State := { s with orders := s.orders.map freed }
theorem freed_order (s : State) (o : Nat) (ho : o < s.orders.length) : (freedS s).order o = freed (s.order o) := by
  unfold State.order orderAt freedS
  simp [ho]
theorem freed_line (s : State) {o k : Nat} (ho : o < s.orders.length) (hk : k < (s.order o).lines.length) : (freedS s).line o k = if (s.order o).kind = 0 then { s.line o k with back := (s.line o k).want } else s.line o k := by
  unfold State.line
  rw [freed_order s o ho]
  unfold freed
  split
  · rw [lineAt_eq (by simpa using hk), lineAt_eq hk]
    simp
  · rfl
theorem freed_lines (s : State) {o : Nat} (ho : o < s.orders.length) : ((freedS s).order o).lines.length = (s.order o).lines.length := by
  rw [freed_order s o ho]
  unfold freed
  split
  · simp
  · rfl
theorem freed_kind (s : State) {o : Nat} (ho : o < s.orders.length) : ((freedS s).order o).kind = if (s.order o).kind = 0 then 1 else (s.order o).kind := by
  rw [freed_order s o ho]
  unfold freed
  split <;> rfl
theorem freed_len (s : State) : (freedS s).orders.length = s.orders.length := by simp [freedS]
theorem freed_right {p : Plan} {s : State} (h : checkState p s = 0) : checkState p (freedS s) = 0 := by
  obtain ⟨hr, hgot⟩ := check_iff.1 h
  have hs := hr.sane
  have hbound : ∀ b g : Int, bound (freedS s) b g = bound s b g := fun b g => by
    unfold bound
    have : heldIn (freedS s) b g = heldIn s b g := heldIn_mem (s := s) (t := freedS s) rfl (fun x hx => by
      obtain ⟨i, hi, rfl⟩ := List.getElem_of_mem hx
      have := hs.holdAt hi
      rw [hold_get hi] at this
      rw [freed_line s (by omega) (by omega)]
      split <;> rfl) b g
    rw [this]
    rfl
  refine check_iff.2 ⟨Right.of (Sane.of hs.shelf (by rw [freed_len]; exact hs.orders4) hs.moves8 (fun o ho => ?_) (fun o k ho hk => ?_) hs.holds (fun x hx => ?_) (fun x hx => List.all_eq_true.1 (formed_iff.1 hs.form).2.2.2.1 x hx)
    (formed_iff.1 hs.form).2.2.2.2.1 (formed_iff.1 hs.form).2.2.2.2.2.1 (formed_iff.1 hs.form).2.2.2.2.2.2) (fun g hg => hr.sum hg) (fun b g hb hg => by rw [hbound]; exact hr.bnd hb hg) (fun o k ho hk => ?_), fun o ho hh => ?_⟩
  · rw [freed_len] at ho
    rw [freed_lines s ho, freed_kind s ho]
    refine ⟨hs.lines3 ho, ?_⟩
    have := hs.kind ho
    split <;> omega
  · rw [freed_len] at ho
    rw [freed_lines s ho] at hk
    rw [freed_line s ho hk]
    have h1 := hs.line ho hk
    split
    · exact lineOk_iff.2 ⟨h1.1, h1.2.1, h1.2.2.1, by simp only; omega⟩
    · exact lineOk_iff.2 h1
  · have h1 := holdIn_iff.1 (List.all_eq_true.1 (formed_iff.1 hs.form).2.2.1 x hx)
    have hx' : x ∈ s.holds := hx
    obtain ⟨i, hi, rfl⟩ := List.getElem_of_mem hx'
    have := (hs.holdAt hi).1
    rw [hold_get hi] at this
    refine holdIn_iff.2 ⟨by rw [freed_len]; exact h1.1, ?_, h1.2.2⟩
    rw [freed_lines s (by omega)]
    exact h1.2.1
  · rw [freed_len] at ho
    rw [freed_lines s ho] at hk
    have h1 := hr.lineSum ho hk
    have h2 := hs.line ho hk
    have h3 := (kept_range hs.holds o k).1
    refine lineSummed_iff.2 ?_
    rw [freed_line s ho hk, freed_kind s ho]
    by_cases hz : (s.order o).kind = 0
    · rw [if_pos hz, if_pos hz, if_neg (by omega)]
      rw [if_pos hz] at h1
      have e : kept (freedS s).holds o k = kept s.holds o k := rfl
      rw [e]
      simp only
      omega
    · rw [if_neg hz, if_neg hz]
      exact h1
  · rw [freed_len] at ho
    rw [freed_kind s ho, allGot_iff, freed_lines s ho] at hh
    obtain ⟨h1, h2⟩ := hh
    by_cases hz : (s.order o).kind = 0
    · have hl := hs.lines3 ho
      have h3 := h2 0 (by omega)
      have h4 := freed_line s (o := o) (k := 0) ho (by omega)
      rw [if_pos hz] at h4
      have h5 : lineAt ((freedS s).order o).lines 0 = (freedS s).line o 0 := rfl
      rw [h5, h4] at h3
      have h6 := (hr.lineSum (o := o) (k := 0) ho (by omega)).1
      rw [if_pos hz] at h6
      have h7 := hs.line (o := o) (k := 0) ho (by omega)
      have h8 := (kept_range hs.holds o (0 : Nat)).1
      simp only at h3
      omega
    · rw [if_neg hz] at h1
      refine hgot o ho ⟨h1, allGot_iff.2 fun k hk => ?_⟩
      have h3 := h2 k hk
      have h4 := freed_line s (o := o) (k := k) ho hk
      rw [if_neg hz] at h4
      have h5 : lineAt ((freedS s).order o).lines k = (freedS s).line o k := rfl
      rw [h5, h4] at h3
      exact h3

theorem release_taken {p : Plan} {s : State} (h : checkState p s = 0) : Taken p (fun o _ => o < s.orders.length) (freedS s) (releaseS p s) :=
  takeOrders_taken (right_of_check (freed_right h)) _ (by rw [freed_len]; exact Nat.le_refl _)
theorem taken_check {p : Plan} {S : Nat → Nat → Prop} {s t : State} (h : Taken p S s t) (hs : checkState p s = 0) : checkState p t = 0 := by
  refine check_iff.2 ⟨h.right, fun o ho => ?_⟩
  rw [h.orders] at ho
  have := (check_iff.1 hs).2 o ho
  rw [h.kind]
  rintro ⟨h1, h2⟩
  refine this ⟨h1, allGot_iff.2 fun k hk => ?_⟩
  have h3 := allGot_iff.1 h2 k (by rw [h.lines]; exact hk)
  have h4 := h.line o k
  unfold State.line at h4
  rw [h4.2.1, h4.2.2] at h3
  exact h3
theorem release_check {p : Plan} {s : State} (h : checkState p s = 0) : checkState p (releaseS p s) = 0 := taken_check (release_taken h) (freed_right h)
theorem release_len {p : Plan} {s : State} (h : checkState p s = 0) : (releaseS p s).orders.length = s.orders.length := by rw [(release_taken h).orders, freed_len]
theorem release_kind {p : Plan} {s : State} (h : checkState p s = 0) {o : Nat} (ho : o < s.orders.length) : ((releaseS p s).order o).kind ≠ 0 := by
  rw [(release_taken h).kind, freed_kind s ho]
  split <;> omega
-- released once more
-- who was entered first has first
theorem takeOrders_step {p : Plan} {s : State} (h : Right p s) : ∀ n m, m ≤ n → n ≤ s.orders.length → Taken p (fun o _ => m ≤ o ∧ o < n) (takeOrders p m s) (takeOrders p n s)
  | 0, m, hmn, hn => by
    obtain rfl : m = 0 := by omega
    exact Taken.same (takeOrders_taken h 0 hn).right fun _ _ hs => by omega
  | n + 1, m, hmn, hn => by
    by_cases he : m = n + 1
    · subst he
      exact Taken.same (takeOrders_taken h (n + 1) hn).right fun _ _ hs => by omega
    · have h0 := takeOrders_taken h m (by omega)
      have h1 := takeOrders_step h n m (by omega) (by omega)
      have h2 := takeOrder_taken h1.right (o := n) (by rw [h1.orders, h0.orders]; omega)
      exact (h1.trans h2 (fun o' k' hs hs' => by omega)).mono (fun o' k' hs => by omega) (fun o' k' _ _ hs => by omega)
theorem release_first {p : Plan} {s : State} (h : checkState p s = 0) {x y u v : Nat} (hxy : x < y) (hy : y < s.orders.length) (hu : u < (s.order x).lines.length) (hv : v < (s.order y).lines.length)
    (hg : ((releaseS p s).line x u).good = ((releaseS p s).line y v).good) (hb : 0 < ((releaseS p s).line x u).back) (hk : ((releaseS p s).order x).kind = 1) : kept (releaseS p s).holds y v = kept s.holds y v := by
  have hf := right_of_check (freed_right h)
  have h1 := takeOrders_taken hf (x + 1) (by rw [freed_len]; omega)
  have h2 : Taken p (fun o _ => x + 1 ≤ o ∧ o < s.orders.length) (takeOrders p (x + 1) (freedS s)) (releaseS p s) := takeOrders_step hf s.orders.length (x + 1) (by omega) (by rw [freed_len]; exact Nat.le_refl _)
  have hxl : x < (freedS s).orders.length := by rw [freed_len]; omega
  have hyl : y < (freedS s).orders.length := by rw [freed_len]; omega
  have hul : u < ((freedS s).order x).lines.length := by rw [freed_lines s (by omega)]; exact hu
  have hvl : v < ((freedS s).order y).lines.length := by rw [freed_lines s (by omega)]; exact hv
  have hz := h1.done x u (by omega) hxl hul (by rw [← h1.kind, ← h2.kind]; exact hk) (by rw [← h2.back x u (by omega)]; exact hb)
  rw [h2.none y v (by omega) (by rw [h1.orders]; exact hyl) (by rw [h1.lines]; exact hvl) (fun b hbn => by
    have e : ((takeOrders p (x + 1) (freedS s)).line y v).good = ((freedS s).line x u).good := by
      rw [← (h2.line y v).1, ← hg, (h2.line x u).1, (h1.line x u).1]
    rw [e]
    exact hz b hbn)]
  exact h1.kept y v (by omega)
theorem release_lines {p : Plan} {s : State} (h : checkState p s = 0) {o : Nat} (ho : o < s.orders.length) : ((releaseS p s).order o).lines.length = (s.order o).lines.length := by rw [(release_taken h).lines, freed_lines s ho]

-- who is cancelled
theorem holdsOk_filter {l : List Hold} (P : Hold → Bool) (h : holdsOk l = true) : holdsOk (l.filter P) = true := by
  obtain ⟨h1, h2⟩ := holdsOk_iff.1 h
  exact holdsOk_iff.2 ⟨fun x hx => h1 x (List.mem_filter.1 hx).1, h2.sublist List.filter_sublist⟩
theorem kept_filter (l : List Hold) (o : Nat) (o' k' : Int) : kept (l.filter fun h => decide (h.order ≠ o)) o' k' = if o' = (o : Int) then 0 else kept l o' k' := by
  unfold kept
  rw [List.filter_filter]
  split
  · rename_i e
    rw [filter_none]
    · rfl
    · intro x _
      unfold sameLine
      subst e
      by_cases hx : x.order = (o : Int) <;> simp [hx]
  · rename_i e
    congr 2
    apply List.filter_congr
    intro x _
    unfold sameLine
    by_cases hx : x.order = o'
    · have : x.order ≠ (o : Int) := by rw [hx]; exact e
      simp [hx, e]
    · simp [hx]
theorem sum_filter {f : Hold → Int} (P : Hold → Bool) : ∀ {l : List Hold}, (∀ x ∈ l, 0 ≤ f x) → 0 ≤ ((l.filter P).map f).sum ∧ ((l.filter P).map f).sum ≤ (l.map f).sum
  | [], _ => by simp
  | x :: l, h => by
    have h1 := sum_filter P (l := l) fun y hy => h y (List.mem_cons_of_mem _ hy)
    have h2 := h x (List.mem_cons_self ..)
    rw [List.filter_cons]
    split
    · rw [List.map_cons, List.sum_cons, List.map_cons, List.sum_cons]
      omega
    · rw [List.map_cons, List.sum_cons]
      omega
theorem cancel_order {s : State} {o : Nat} (ho : o < s.orders.length) (o' : Nat) : (cancelS s o).order o' = if o' = o then ⟨2, (s.order o).lines.map fun x => { x with back := x.want - x.got }⟩ else s.order o' := orderAt_set ho _ _
theorem cancel_len (s : State) (o : Nat) : (cancelS s o).orders.length = s.orders.length := by simp [cancelS]
theorem cancel_lines {s : State} {o : Nat} (ho : o < s.orders.length) (o' : Nat) : ((cancelS s o).order o').lines.length = (s.order o').lines.length := by
  rw [cancel_order ho]
  split
  · rename_i e
    subst e
    simp
  · rfl
theorem cancel_line {s : State} {o : Nat} (ho : o < s.orders.length) {o' k' : Nat} (hk : k' < (s.order o').lines.length) : (cancelS s o).line o' k' = if o' = o then { s.line o' k' with back := (s.line o' k').want - (s.line o' k').got } else s.line o' k' := by
  unfold State.line
  rw [cancel_order ho]
  split
  · rename_i e
    subst e
    rw [lineAt_eq (by simpa using hk), lineAt_eq hk]
    simp
  · rfl
theorem cancel_check {p : Plan} {s : State} {o : Nat} (h : checkState p s = 0) (ho : o < s.orders.length) : checkState p (cancelS s o) = 0 := by
  obtain ⟨hr, hgot⟩ := check_iff.1 h
  have hs := hr.sane
  have hbound : ∀ b g : Int, bound (cancelS s o) b g ≤ bound s b g := fun b g => by
    have e : heldIn (cancelS s o) b g = heldIn { s with holds := s.holds.filter fun h => decide (h.order ≠ o) } b g := heldIn_mem (s := { s with holds := s.holds.filter fun h => decide (h.order ≠ o) }) (t := cancelS s o) rfl (fun x hx => by
      have hx' := (List.mem_filter.1 hx).1
      obtain ⟨i, hi, rfl⟩ := List.getElem_of_mem hx'
      have := hs.holdAt hi
      rw [hold_get hi] at this
      rw [cancel_line ho (by omega)]
      split <;> rfl) b g
    have e2 : heldIn { s with holds := s.holds.filter fun h => decide (h.order ≠ o) } b g ≤ heldIn s b g := (sum_filter (f := heldN s b g) _ fun x hx => by
      have := (fine_iff.1 ((holdsOk_iff.1 hs.holds).1 x hx)).2
      unfold heldN
      split <;> omega).2
    unfold bound
    rw [e]
    have : (cancelS s o).moves = s.moves := rfl
    rw [this]
    omega
  refine check_iff.2 ⟨Right.of (Sane.of hs.shelf (by rw [cancel_len]; exact hs.orders4) hs.moves8 (fun o' ho' => ?_) (fun o' k ho' hk => ?_) (holdsOk_filter _ hs.holds) (fun x hx => ?_) (fun x hx => List.all_eq_true.1 (formed_iff.1 hs.form).2.2.2.1 x hx)
    (formed_iff.1 hs.form).2.2.2.2.1 (formed_iff.1 hs.form).2.2.2.2.2.1 (formed_iff.1 hs.form).2.2.2.2.2.2) (fun g hg => hr.sum hg) (fun b g hb hg => Int.le_trans (hbound b g) (hr.bnd hb hg)) (fun o' k ho' hk => ?_), fun o' ho' hh => ?_⟩
  · rw [cancel_len] at ho'
    rw [cancel_lines ho]
    refine ⟨hs.lines3 ho', ?_⟩
    rw [cancel_order ho]
    split
    · simp only; omega
    · exact hs.kind ho'
  · rw [cancel_len] at ho'
    rw [cancel_lines ho] at hk
    rw [cancel_line ho hk]
    have h1 := hs.line ho' hk
    split
    · exact lineOk_iff.2 ⟨h1.1, h1.2.1, h1.2.2.1, by simp only; omega⟩
    · exact lineOk_iff.2 h1
  · have hx' := (List.mem_filter.1 hx).1
    have h1 := holdIn_iff.1 (List.all_eq_true.1 (formed_iff.1 hs.form).2.2.1 x hx')
    refine holdIn_iff.2 ⟨by rw [cancel_len]; exact h1.1, ?_, h1.2.2⟩
    rw [cancel_lines ho]
    exact h1.2.1
  · rw [cancel_len] at ho'
    rw [cancel_lines ho] at hk
    have h1 := hr.lineSum ho' hk
    have h2 := hs.line ho' hk
    have e : kept (cancelS s o).holds o' k = if (o' : Int) = (o : Int) then 0 else kept s.holds o' k := kept_filter _ _ _ _
    refine lineSummed_iff.2 ?_
    rw [cancel_line ho hk, cancel_order ho, e]
    by_cases he : o' = o
    · subst he
      rw [if_pos rfl, if_pos rfl, if_pos rfl]
      simp only
      rw [if_neg (by omega)]
      omega
    · rw [if_neg he, if_neg he, if_neg (by omega)]
      exact h1
  · rw [cancel_len] at ho'
    rw [cancel_order ho] at hh
    split at hh
    · exact absurd hh.1 (by simp only; omega)
    · exact hgot o' ho' hh
end Wh
