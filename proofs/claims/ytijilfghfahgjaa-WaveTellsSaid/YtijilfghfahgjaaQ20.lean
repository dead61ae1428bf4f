/- Texts of the claim, joined: AllocA, MemS, BoxK. -/
import Derived.Laws.Tables
import Derived.Test.YtijilfghfahgjaaQ18
import Derived.Test.YtijilfghfahgjaaQ19
import Derived.Test.YtijilfghfahgjaaQ17
import Derived.Test.YtijilfghfahgjaaQ03
namespace Wh
open Go Go.RowKit Go.Shelf Go.Proofs
attribute [local go_sem] run_indexAt_letter

section
variable {p : Plan} {s : State} {o k b : Nat} {m : Int}
theorem add_fits (h : Right p s) (f : Fits p s o k b m) : add s.holds ⟨o, k, b, m⟩ = ((hold1 s o k b m).holds, 0) := by
  have h1 := h.sane.holds
  have hkey := key_of h.sane f.ho f.hk f.hb
  obtain ⟨k1, k2⟩ := fits_kept h f
  have hf : holdFine ⟨o, k, b, m⟩ = true := fine_iff.2 ⟨hkey, by have := f.m1; simp only; omega⟩
  unfold add
  rw [h1, hf, if_neg (by simp), if_neg (by simp)]
  simp only
  rw [if_neg (by omega)]
  rfl
end
theorem nats_at {l : List Nat} {j : Nat} (hj : j < l.length) : intAt (nats l) j = (l[j] : Int) := by
  unfold intAt nats
  simp [hj]
theorem drop_at {l : List Nat} {j : Nat} (hj : j < l.length) : l.drop j = l[j] :: l.drop (j + 1) := List.drop_eq_getElem_cons hj

theorem OwnSt.lineCells {w : World} {base : Nat} {V : SV} {s : State} (h : OwnSt w base V s) {o k : Nat} (ho : o < s.orders.length) (hk : k < (s.order o).lines.length) {gl n c : Nat} (hv : V.line o = .slice (some ⟨gl, 0, none⟩) n c) : gl < w.heap.size ∧
    w.cell? ⟨gl, k * 4, none⟩ = some (.int .i64 (s.line o k).good) ∧ w.cell? ⟨gl, k * 4 + 1, none⟩ = some (.int .i64 (s.line o k).want) ∧ w.cell? ⟨gl, k * 4 + 2, none⟩ = some (.int .i64 (s.line o k).got) ∧ w.cell? ⟨gl, k * 4 + 3, none⟩ = some (.int .i64 (s.line o k).back) := by
  obtain ⟨g', c', cur, e1, _, e3, f⟩ := h.lineAt ho hk
  rw [hv] at e1
  injection e1 with e1
  injection e1 with e1
  injection e1 with e1
  subst e1
  exact ⟨e3.lt, f⟩
/-- What holding in a state of one's own does. -/
def HoldPost (p : Plan) (s : State) (o k : Nat) (n but : Int) (w : World) (base b : Nat) (t : TypeId) (rst : List Value) (V : SV) (e : Ending) (w' : World) : Prop :=
  e = .returned (.int .i64 (takeS p s o k n but).2) ∧ ∃ V', V' = { V with holds := V'.holds } ∧ Bx w' base b t rst V' (takeS p s o k n but).1 ∧ Step (fun j => j = b ∨ (V.line o).ownBlock = some j) w w'

set_option maxHeartbeats 8000000 in
set_option maxRecDepth 100000 in
theorem alHold (w : World) (v : Value) (p : Plan) (s : State) (o k : Nat) (n but : Int) {base b : Nat} {t : TypeId} {rst : List Value} {V : SV} (hp : PlanV w w.heap.size v p) (hr : Right p s) (hm : May s o k n) (hB : Bx w base b t rst V s) (hbase : base ≤ w.heap.size) :
    Calls Try.prog 58 #[v, .pointer (some ⟨b, 0, none⟩), .int .i64 o, .int .i64 k, .int .i64 n, .int .i64 but] w (HoldPost p s o k n but w base b t rst V) := by
  obtain ⟨Ab, cb, As, cs, rfl, hP', hBn, hSz, hlb, hls⟩ := openPl hp
  go_enter Try.func58, Try.ntmps58
  go_wp2_with fail
  obtain ⟨W0, hW0, hb0, hsz0, hK⟩ := boxesPl w p Ab cb As cs
  rw [hW0]
  clear hW0
  have hz := hr.sane.plan
  obtain ⟨y0, y1, hbz1⟩ := hK.out W0 (Below.refl _ _)
  go_wp2_with fail
  refine (planWayOwn _ _ p (hP'.out _ hb0)).mono ?_
  rintro e W1 ⟨uw, rfl, hway, h1⟩
  rw [hz] at hway ⊢
  rw [if_pos rfl] at hway
  obtain ⟨Aw, cw, rfl⟩ := hway.isSlice
  rw [nats_length] at hway ⊢
  have hBlt := hB.lt
  have hb01 := hb0.trans (h1.mono hb0.size)
  have hB1 := Lib.hid (hB.below hb01)
  obtain ⟨gl, cl, curl, e1, hgl, hblk, f0, f1, f2, f3⟩ := hB1.out.own.lineAt hm.ho hm.hk
  have hll := ((hB.own.line o hm.ho).size gl (by rw [e1]; rfl)).2
  obtain ⟨go, co, curo, eo, hgo, hblko, z0, z1⟩ := hB1.out.own.orderAt hm.ho
  obtain ⟨c0, c1, c2, c3, c4, c5, c6⟩ := hB1.out.cells
  rw [eo] at c1
  rw [e1] at z1
  have hon : (o : Int) < (s.orders.length : Int) := by have := hm.ho; omega
  have hkn : (k : Int) < ((s.order o).lines.length : Int) := by have := hm.hk; omega
  have hm' := Lib.hid hm
  have hr' := Lib.hid hr
  have hway' := Lib.hid hway
  have hlw : (way p).length ≤ 6 := by rw [way_length]; exact hr.sane.counts.2.1
  clear hm hr hway hB hz y0 y1 hP' hBn hSz hK
  go_wp2_with fail
  clear c0 c1 c2 c3 c4 c5 c6 z0 z1 f0 f1 f2 f3 hon hkn eo hblko hblk
  have hl0 : W0.heap.size ≤ W1.heap.size := h1.size
  go_loopw [36, 4, 17, 18] (fun i n' _ _ wr => ∃ (j : Nat) (s' : State) (m : Int) (V' : SV), V' = { V with holds := V'.holds } ∧ j ≤ (way p).length ∧ i = .int .i64 j ∧ n' = .int .i64 m ∧ Right p s' ∧ May s' o k m ∧ takeGo o k but ((way p).drop j) s' m = takeS p s o k n but ∧
    Bx wr base b t rst V' s' ∧ Step (fun j => j = b ∨ (V.line o).ownBlock = some j) W1 wr) (fun i _ _ _ _ => (way p).length - (intOf i).toNat)
  case atStart => exact ⟨0, s, n, V, rfl, Nat.zero_le _, rfl, rfl, hr'.out, hm'.out, rfl, hB1.out, Step.refl _ _⟩
  case round =>
    clear hr' hm' hB1
    obtain ⟨j, s', m, V', hsb, hj, rfl, rfl, hr, hm, htg, hBx, hst⟩ := hrel
    have hr' := Lib.hid hr
    have hm' := Lib.hid hm
    have htg' := Lib.hid htg
    have hBx' := Lib.hid hBx
    have hst' := Lib.hid hst
    have hks := Lib.hid (show ∀ j, (j = b ∨ (V.line o).ownBlock = some j) → j < W0.heap.size from fun j h => by
      have := hb0.size
      rcases h with rfl | h
      · omega
      · rw [e1] at h
        change some gl = some j at h
        injection h with h
        omega)
    by_cases hlt : j < (way p).length
    · have hwb := way_bins p _ (List.getElem_mem hlt)
      have hwr := hway'.out.step hst (fun k hk hks' => absurd (hks.out k hks') (by have := (hway'.out.size k hk).1; omega))
      obtain ⟨gw, cw', curw, ew, hgw, hbw, zw⟩ := OwnSt.intAtOwn hwr (g := j) (by rw [nats_length]; exact hlt)
      rw [nats_at hlt] at zw
      obtain ⟨wb, hwbe⟩ : ∃ x, x = (way p)[j] := ⟨_, rfl⟩
      rw [← hwbe] at zw hwb
      have hwbe' := Lib.hid hwbe
      clear hwbe
      obtain rfl : Aw = some ⟨gw, 0, none⟩ := by injection ew
      clear ew
      obtain ⟨hgll, f0, f1, f2, f3⟩ := hBx.own.lineCells hm.ho hm.hk (show V'.line o = _ by rw [hsb]; exact e1)
      obtain ⟨c0, c1, c2, c3, c4, c5, c6⟩ := hBx.cells
      have q1 := fun o d os => cells_wld (w := wr) (b := b) hBx.lt o d os
      have q2 := fun o d os => cells_wld (w := wr) (b := gl) hgll o d os
      have hV2 := Lib.hid (fun d os => (hBx.own.view hr.sane).up (below_wld wr d os) (below_wld wr d os).size)
      have hgood := Lib.hid (hr.sane.line hm.ho hm.hk)
      have hjl : (j : Int) < ((way p).length : Int) := by omega
      have hr2 := Lib.hid hr.sane
      have hbb := Lib.hid (show 0 ≤ (wb : Int) ∧ (wb : Int) < p.bins.length by omega)
      have hsb' := Lib.hid hsb
      clear hr hm htg hBx hst hwr hbw hsb
      go_wp2_with fail
      refine wp_region_wld (by kernel_rfl) (by kernel_rfl) ?_
      repeat (go_big_quiet_step ((go_at_call 38; refine calls_wld (sLeft _ _ p s' wb _ (hV2.out _ _) hr2.out hbb.out hgood.out.1))))
      refine wpQuiet_nil ?_
      intro W6 hw'
      have hb6 := below_of_cls hw'
      clear hw'
      generalize hmm : (if avail s' ↑wb (s'.line o k).good < m then avail s' ↑wb (s'.line o k).good else m) = mm
      have hmin : mm = min m (avail s' wb (s'.line o k).good) := by rw [← hmm]; split <;> omega
      have hav := hm'.out.avail hr'.out hwb
      have hmb := hm'.out.back
      have hm0 := hm'.out.n0
      have hgb := hgood.out
      have hmr : mm ≤ m ∧ m ≤ 200 ∧ 0 ≤ mm ∧ mm ≤ avail s' wb (s'.line o k).good := by omega
      have hbr : 0 ≤ (s'.line o k).back ∧ (s'.line o k).back ≤ 200 := by omega
      have hst6 := Lib.hid (hst'.out.trans (.of_below hb6))
      have hBx6 := Lib.hid (hBx'.out.below hb6)
      have hmin' := Lib.hid hmin
      have hdr : takeGo o k but (wb :: (way p).drop (j + 1)) s' m = takeS p s o k n but := by rw [hwbe'.out, ← drop_at hlt]; exact htg'.out
      have hdr' := Lib.hid hdr
      clear hmm hmin hav hmb hm0 hgb hdr q1 q2 zw f0 f1 f2 f3 c0 c1 c2 c3 c4 c5 c6 hV2
      by_cases hsk : (wb : Int) = but ∨ mm < 1
      · have htg2 := Lib.hid (show takeGo o k but ((way p).drop (j + 1)) s' m = takeS p s o k n but by rw [← hdr'.out, takeGo_skip (by rw [← hmin'.out]; exact hsk)])
        by_cases hbut : (wb : Int) = but
        · have hq : ((wb : Int) == but) = true := by simpa using hbut
          clear hsk hbut
          go_wp2_with fail
          go_roundw
          case rel => exact ⟨j + 1, s', m, V', hsb'.out, by omega, by go_num, rfl, hr'.out, hm'.out, htg2.out, hBx6.out, hst6.out⟩
          case measure => simp [intOf]; omega
        · have hq : ((wb : Int) == but) = false := by simpa using hbut
          have hlt1 : mm < 1 := hsk.resolve_left hbut
          clear hsk hbut
          go_wp2_with fail
          go_roundw
          case rel => exact ⟨j + 1, s', m, V', hsb'.out, by omega, by go_num, rfl, hr'.out, hm'.out, htg2.out, hBx6.out, hst6.out⟩
          case measure => simp [intOf]; omega
      · have hbut : ¬ (wb : Int) = but := fun h => hsk (.inl h)
        have hge : 1 ≤ mm := by omega
        have hfit := Lib.hid (hm'.out.fits hwb hge hmr.1 hmr.2.2.2)
        have htg2 := Lib.hid (show takeGo o k but ((way p).drop (j + 1)) (hold1 s' o k wb mm) (m - mm) = takeS p s o k n but by rw [← hdr'.out, takeGo_one hbut (by rw [← hmin'.out]; exact hge), ← hmin'.out])
        have hq : ((wb : Int) == but) = false := by simpa using hbut
        obtain ⟨c0, c1, c2, c3, c4, c5, c6⟩ := hBx6.out.cells
        have hlen := ok_len72 hr2.out.holds
        have hble : base ≤ W6.heap.size := Nat.le_trans hbase (Nat.le_trans hb01.size (Nat.le_trans hst'.out.size hb6.size))
        clear hsk hbut
        go_wp2_with fail
        refine (hdAdd _ _ s'.holds ⟨o, k, wb, mm⟩ (hBx6.out.own.holds.sl (by omega))).mono ?_
        rintro e W7 ⟨u7, rfl, hu7, hb7⟩
        rw [add_fits hr'.out hfit.out] at hu7 ⊢
        have hBx7 := Lib.hid (hBx6.out.below hb7)
        have hu7' := Lib.hid (hu7.from_ hble)
        obtain ⟨A7, c7, rfl⟩ := hu7.isSlice
        clear hu7 c0 c1 c2 c3 c4 c5 c6
        go_wp2_with (refine wp_st_holds rfl (.tmp 73) (.tmp 70) rfl rfl A7 _ c7 _ hBx7.out rfl rfl hu7'.out (fun w8 hBx8 hst8 => ?_); refine Hid.out ?_)
        unfold Hid
        obtain ⟨hgll8, f0, f1, f2, f3⟩ := hBx8.own.lineCells (s := { s' with holds := (hold1 s' o k wb mm).holds }) hm'.out.ho hm'.out.hk (show V'.line o = _ by rw [hsb'.out]; exact e1)
        have hBx8' := Lib.hid hBx8
        have hw1 : IntKind.i64.wrap ((s'.line o k).back - mm) = (s'.line o k).back - mm := IntWalk.i64_in _ (by omega)
        have hw2 : IntKind.i64.wrap (m - mm) = m - mm := IntWalk.i64_in _ (by omega)
        have f3' : w8.cell? ⟨gl, k * 4 + 3, none⟩ = some (.int .i64 (s'.line o k).back) := f3
        clear hBx8 f0 f1 f2 f3
        go_wp2_with (refine wp_st_line rfl (.tmp 81) (.tmp 79) rfl rfl (j := 3) (y := { s'.line o k with back := (s'.line o k).back - mm }) hBx8'.out hm'.out.ho hm'.out.hk (show V'.line o = _ by rw [hsb'.out]; exact e1) (by decide) rfl rfl rfl (fun w9 hBx9 hst9 => ?_); refine Hid.out ?_)
        unfold Hid
        have hBx9' := Lib.hid (show Bx w9 base b t rst { V' with holds := .slice A7 (hold1 s' o k wb mm).holds.length c7 } (hold1 s' o k wb mm) from hBx9)
        have hst9' := Lib.hid (((hst6.out.trans (.of_below hb7)).trans (hst8.mono fun _ h => .inl h)).trans (hst9.mono fun q hq => .inr (by rw [hq, e1]; rfl)))
        clear f3' hBx9 hst9 hst8
        go_wp2_with fail
        go_roundw
        case rel => exact ⟨j + 1, hold1 s' o k wb mm, m - mm, _, by rw [hsb'.out], by omega, by go_num, rfl, hold1_right hr'.out hfit.out, hm'.out.held (Held.one hr'.out hfit.out) hmr.1, htg2.out, hBx9'.out, hst9'.out⟩
        case measure => simp [intOf]; omega
    · obtain rfl : j = (way p).length := by omega
      have hfin := Lib.hid (show (s', m) = takeS p s o k n but by rw [← htg'.out, List.drop_length]; rfl)
      have hsb' := Lib.hid hsb
      clear hr hm htg hBx hst hsb
      go_wp2_with fail
      go_ret
      exact ⟨ret_int (by rw [← hfin.out]), V', hsb'.out, by rw [← hfin.out]; exact hBx'.out, (Step.of_below hb01).trans hst'.out⟩
end Wh
namespace Wh
open Go Go.RowKit

section
variable {P : Program}
theorem run_storeVar_blk (w : World) (g o : Nat) (e ty : TypeId) (cur cs : List Value) (hg : Blk w g e cur) (hfit : o + cs.length ≤ cur.length) (hi : (P.info? ty).map (·.size) = some cs.length) (h1 : ∀ v ∈ cs, v.oneCell' = true) :
    (storeVar ty ⟨g, o, none⟩ (.agg cs.toArray)).run P w = .ok () (w.setRow g (spl cur o cs).toArray) := by
  have := run_storeCells_at P g o e cs 0 cur.toArray w hg (by simpa using hfit) h1
  cases hq : P.info? ty with
  | none => simp [hq] at hi
  | some i =>
    have hs : i.size = cs.length := by simpa [hq] using hi
    simp only [Nat.add_zero] at this
    simp [storeVar, Go.sizeOf, typeInfo, hq, Value.cells, hs, this, spl]
theorem flat_put {α : Type} (enc : α → List Value) (k : Nat) (hk : ∀ x, (enc x).length = k) {l : List α} {i : Nat} (hi : i < l.length) (y : α) {cur : List Value} (hc : l.length * k ≤ cur.length) (ht : cur.take (l.length * k) = l.flatMap enc) :
    (spl cur (i * k) (enc y)).take (l.length * k) = (l.set i y).flatMap enc := by
  have h1 : (i + 1) * k ≤ l.length * k := Nat.mul_le_mul_right _ (by omega)
  have h2 : i * k + k = (i + 1) * k := by rw [Nat.add_mul]; omega
  have e1 : l.set i y = l.take i ++ [y] ++ l.drop (i + 1) := by
    rw [List.set_eq_take_append_cons_drop, if_pos hi, List.append_assoc]
    rfl
  rw [e1, List.flatMap_append, List.flatMap_append, List.flatMap_singleton, ← flat_take enc k hk, ← flat_drop enc k hk, ← ht]
  have e2 : (cur.take (i * k) ++ enc y).length = (i + 1) * k := by rw [List.length_append, List.length_take, hk, Nat.min_eq_left (by omega), h2]
  unfold spl
  rw [hk, h2, List.take_append, List.take_of_length_le (by rw [e2]; exact h1), e2, List.take_take, Nat.min_eq_left (by omega), List.drop_take]
theorem Own.put {α : Type} {enc : α → List Value} {size : Nat} {e : TypeId} {w : World} {base g n c : Nat} {l : List α} (h : Own enc size e w base (.slice (some ⟨g, 0, none⟩) n c) l) (hk : ∀ x, (enc x).length = size) {i : Nat} (hi : i < l.length) (y : α)
    {ty : TypeId} (hty : (P.info? ty).map (·.size) = some size) (h1 : ∀ v ∈ enc y, v.oneCell' = true) :
    ∃ w', (storeVar ty ⟨g, i * size, none⟩ (.agg (enc y).toArray)).run P w = .ok () w' ∧ Own enc size e w' base (.slice (some ⟨g, 0, none⟩) n c) (l.set i y) ∧ w.grownBy w' (some g) := by
  obtain ⟨g', cap, cur, e1, hb, hg, h2, h3, h4, h5⟩ := h.row (by omega)
  injection e1 with e1 e2 e3
  injection e1 with e1
  injection e1 with e1
  subst e1 e2 e3
  have hle : l.length * size ≤ cur.length := by rw [h4]; exact Nat.mul_le_mul_right _ h2
  have hfit : i * size + (enc y).length ≤ cur.length := by
    rw [hk]
    have : (i + 1) * size ≤ l.length * size := Nat.mul_le_mul_right _ (by omega)
    rw [Nat.add_mul] at this
    omega
  refine ⟨_, run_storeVar_blk w g (i * size) e ty cur (enc y) hg hfit (by rw [hk]; exact hty) h1, ?_, grown_row w g _⟩
  have := Own.of_row (l := l.set i y) hk hb (hg.row (spl cur (i * size) (enc y))) (by rw [List.length_set]; exact h2) h3 (by rw [spl_length hfit]; exact h4) (by rw [List.length_set]; exact flat_put enc size hk hi y hle h5)
  rwa [List.length_set] at this
/-- 's[i] = x', a struct. -/
theorem wpList_put {α : Type} {enc : α → List Value} {size : Nat} {e : TypeId} {w : World} {base g n c : Nat} {l : List α} {ops : Array Oper} {rest : List Oper} {o : Oper} {a : Go.Act} {Q : Exit → Go.Act → World → Prop} (hgd : o.guard = none) (x z : Operand) (ty : TypeId) (ho : o.op = .store ty x z) (hn : o.dst = none)
    (h : Own enc size e w base (.slice (some ⟨g, 0, none⟩) n c) l) (hk : ∀ x, (enc x).length = size) {i : Nat} (hi : i < l.length) (y : α) (hty : (P.info? ty).map (·.size) = some size) (h1 : ∀ v ∈ enc y, v.oneCell' = true)
    (hx : a.eval x = .pointer (some ⟨g, i * size, none⟩)) (hy : a.eval z = .agg (enc y).toArray)
    (hK : ∀ w', Own enc size e w' base (.slice (some ⟨g, 0, none⟩) n c) (l.set i y) → w.grownBy w' (some g) → wpList P ops Q rest a w') : wpList P ops Q (o :: rest) a w :=
  wpList_plain hgd fun K hK' => by
    obtain ⟨w', hr, h2, h3⟩ := h.put hk hi y hty h1
    unfold Oper.wp execOp
    simp only [ho, hx, hy, Instr.storeAt, Instr.sureAddr, Sem.run_bind, Sem.run_pure, Result.andThen_ok, hr]
    have hk := hK' (a.put o.dst undef) w' (by rw [hn]; exact hK _ h2 h3)
    exact hk
/-- The row's head alone, what lies behind it cleared. -/
theorem Own.cut {α : Type} {enc : α → List Value} {size : Nat} {e : TypeId} {w : World} {base g n c : Nat} {l : List α} (h : Own enc size e w base (.slice (some ⟨g, 0, none⟩) n c) l) (hk : ∀ x, (enc x).length = size) {i : Nat} (hi : i < l.length)
    {t : TypeId} {z : Value} (ht : P.underlying t = some (.slice e)) (hv : ∀ w, (zeroValue e).run P w = .ok z w) (hz : z.cells.size = size) (h1 : ∀ v ∈ z.cells, v.oneCell' = true) :
    ∃ w', (∀ ty c', (Builtin.clear_ #[t] ty #[.slice (some ⟨g, i * size, none⟩) (n - i) c']).run P w = .ok (.tuple #[]) w') ∧ Own enc size e w' base (.slice (some ⟨g, 0, none⟩) i c) (l.take i) ∧ w.grownBy w' (some g) := by
  obtain ⟨g', cap, cur, e1, hb, hg, h2, h3, h4, h5⟩ := h.row (by omega)
  injection e1 with e1 e2 e3
  injection e1 with e1
  injection e1 with e1
  subst e1 e2 e3
  have hle : l.length * size ≤ cur.length := by rw [h4]; exact Nat.mul_le_mul_right _ h2
  have hsp : i * size + (l.length - i) * size = l.length * size := by rw [← Nat.add_mul]; congr 1; omega
  have hzl : (Builtin.zeroCells z.cells (l.length - i)).toList.length = (l.length - i) * size := by rw [Array.length_toList, zeroCells_length, hz]
  refine ⟨_, fun ty c' => run_clear_blk (P := P) w t e ty z ht hv h1 g (i * size) (l.length - i) c' cur hg (by omega) (by rw [hz]; omega), ?_, grown_row w g _⟩
  have hlen : (l.take i).length = i := by rw [List.length_take]; omega
  have := Own.of_row (l := l.take i) hk hb (hg.row (spl cur (i * size) (Builtin.zeroCells z.cells (l.length - i)).toList)) (by rw [hlen]; omega) h3 (by rw [spl_length (by rw [hzl]; omega)]; exact h4) (by
    rw [hlen, spl_lo (by omega), ← flat_take enc size hk, ← h5, List.take_take, Nat.min_eq_left (by omega)])
  rwa [hlen] at this
end
end Wh
namespace Wh
open Go Go.RowKit Go.Proofs

namespace OwnSt
variable {w w' : World} {base : Nat} {V : SV} {s : State}
/-- A line's row was written. -/
theorem lineTo (h : OwnSt w base V s) {o k : Nat} (ho : o < s.orders.length) {gl n c : Nat} (hv : V.line o = .slice (some ⟨gl, 0, none⟩) n c) (y : Line) (hg : w.grownBy w' (some gl)) (hO : Own cLine 4 56 w' base (V.line o) ((s.order o).lines.set k y)) :
    OwnSt w' base V (s.setLine o k y) := by
  have hl := h.line o ho
  have hob : (V.line o).ownBlock = some gl := by rw [hv]; rfl
  have hg' : w.grownBy w' (V.line o).ownBlock := by rw [hob]; exact hg
  have hlen : (s.setLine o k y).orders.length = s.orders.length := by unfold State.setLine; simp
  have hor : ∀ o', (s.setLine o k y).order o' = if o' = o then { s.order o with lines := (s.order o).lines.set k y } else s.order o' := fun o' => order_set ho
  refine ⟨h.on.kept hg' (h.on.apart hl (by decide)), h.rlen, fun b hb => (h.row b hb).kept hg' ((h.row b hb).apart hl (by decide)), ?_, by rw [hlen]; exact h.llen, fun o' ho' => ?_, h.holds.kept hg' (h.holds.apart hl (by decide)),
    h.moves.kept hg' (h.moves.apart hl (by decide)), h.inn.kept hg' (h.inn.apart hl (by decide)), h.out.kept hg' (h.out.apart hl (by decide)), h.fixed.kept hg' (h.fixed.apart hl (by decide)), h.apart, h.apartl⟩
  · have e : ords (s.setLine o k y).orders V.lines = ords s.orders V.lines := ords_set rfl
    rw [e]
    exact h.orders.kept hg' (h.orders.apart hl (by decide))
  · rw [hlen] at ho'
    rw [hor]
    by_cases he : o' = o
    · subst he
      rw [if_pos rfl]
      exact hO
    · rw [if_neg he]
      exact (h.line o' ho').kept hg' (apart_or h.apartl (by rw [h.llen]; exact ho') (by rw [h.llen]; exact ho) he)
end OwnSt

section
variable {ops : Array Oper} {rest : List Oper} {o : Oper} {a : Act} {w : World} {Q : Exit → Act → World → Prop} {base b : Nat} {t : TypeId} {cs : List Value} {V : SV} {s : State}
/-- An order's kind. -/
theorem wp_st_kind (hgd : o.guard = none) (x z : Operand) (ho : o.op = .store 3 x z) (hn : o.dst = none) {i go n c : Nat} {q : Int} (hB : Bx w base b t cs V s) (hi : i < s.orders.length)
    (hv : V.orders = .slice (some ⟨go, 0, none⟩) n c) (hx : a.eval x = .pointer (some ⟨go, i * 2, none⟩)) (hz : a.eval z = .int .i64 q)
    (h : ∀ w', Bx w' base b t cs V { s with orders := s.orders.set i { s.order i with kind := q } } → Step (· = go) w w' → wpList Try.prog ops Q rest a w') : wpList Try.prog ops Q (o :: rest) a w :=
  wpList_plain hgd fun K hK => by
    obtain ⟨g', c', cur, e1, _, e3, f0, f1⟩ := hB.own.orderAt hi
    rw [hv] at e1
    injection e1 with e1
    injection e1 with e1
    injection e1 with e1
    subst e1
    obtain ⟨h1, h2⟩ := hB.own.setKind hi hv q
    have h3 := h _ ⟨hB.off e3 hB.ty.h3 h2, h1, hB.ty⟩ (.of_grown h2 fun k hk => by injection hk with hk; exact hk.symm)
    have hf := e3.frozen (i * 2)
    clear h hB h1 h2 f1 e3
    unfold Oper.wp
    simp only [execOp, ho, hx, hz]
    go_simp
    exact hK _ _ h3
/-- A number of a shelf. -/
theorem wp_st_on (hgd : o.guard = none) (x z : Operand) (ho : o.op = .store 3 x z) (hn : o.dst = none) {i g gr n c : Nat} {q : Int} (hB : Bx w base b t cs V s) (hi : i < s.on.length) (hg : g < (rowAt s.on i).length)
    (hv : V.row i = .slice (some ⟨gr, 0, none⟩) n c) (hx : a.eval x = .pointer (some ⟨gr, g, none⟩)) (hz : a.eval z = .int .i64 q)
    (h : ∀ w', Bx w' base b t cs V { s with on := setCell s.on i g q } → Step (· = gr) w w' → wpList Try.prog ops Q rest a w') : wpList Try.prog ops Q (o :: rest) a w :=
  wpList_plain hgd fun K hK => by
    obtain ⟨_, _, _, g', c', cur, _, _, _, _, e1, _, e3, f0⟩ := hB.own.onAt hi hg
    rw [hv] at e1
    injection e1 with e1
    injection e1 with e1
    injection e1 with e1
    subst e1
    obtain ⟨h1, h2⟩ := hB.own.setOn hi hg hv q
    have h3 := h _ ⟨hB.off e3 hB.ty.h2 h2, h1, hB.ty⟩ (.of_grown h2 fun k hk => by injection hk with hk; exact hk.symm)
    have hf := e3.frozen g
    clear h hB h1 h2 e3
    unfold Oper.wp
    simp only [execOp, ho, hx, hz]
    go_simp
    exact hK _ _ h3
theorem wp_st_out (hgd : o.guard = none) (x z : Operand) (ho : o.op = .store 3 x z) (hn : o.dst = none) {g gr n c : Nat} {q : Int} (hB : Bx w base b t cs V s) (hg : g < s.out.length)
    (hv : V.out = .slice (some ⟨gr, 0, none⟩) n c) (hx : a.eval x = .pointer (some ⟨gr, g, none⟩)) (hz : a.eval z = .int .i64 q)
    (h : ∀ w', Bx w' base b t cs V { s with out := s.out.set g q } → Step (· = gr) w w' → wpList Try.prog ops Q rest a w') : wpList Try.prog ops Q (o :: rest) a w :=
  wpList_plain hgd fun K hK => by
    obtain ⟨g', c', cur, e1, _, e3, f0⟩ := OwnSt.intAtOwn hB.own.out hg
    rw [hv] at e1
    injection e1 with e1
    injection e1 with e1
    injection e1 with e1
    subst e1
    obtain ⟨h1, h2⟩ := hB.own.setOut hg hv q
    have h3 := h _ ⟨hB.off e3 hB.ty.h2 h2, h1, hB.ty⟩ (.of_grown h2 fun k hk => by injection hk with hk; exact hk.symm)
    have hf := e3.frozen g
    clear h hB h1 h2 e3
    unfold Oper.wp
    simp only [execOp, ho, hx, hz]
    go_simp
    exact hK _ _ h3
theorem infoLine4 : (Try.prog.info? 56).map (·.size) = some 4 := by kernel_rfl
theorem oneLine4 (x : Line) : ∀ u ∈ cLine x, u.oneCell' = true := by simp [cLine, Value.oneCell']
/-- A whole line. -/
theorem wp_put_line (hgd : o.guard = none) (x z : Operand) (ho : o.op = .store 56 x z) (hn : o.dst = none) {i k gl n c : Nat} {y : Line} (hB : Bx w base b t cs V s) (hi : i < s.orders.length) (hk : k < (s.order i).lines.length)
    (hv : V.line i = .slice (some ⟨gl, 0, none⟩) n c) (hx : a.eval x = .pointer (some ⟨gl, k * 4, none⟩)) (hz : a.eval z = vLine y)
    (h : ∀ w', Bx w' base b t cs V (s.setLine i k y) → Step (· = gl) w w' → wpList Try.prog ops Q rest a w') : wpList Try.prog ops Q (o :: rest) a w := by
  obtain ⟨g', c', cur, e1, _, e3, _⟩ := hB.own.lineAt hi hk
  rw [hv] at e1
  injection e1 with e1 e2 e2'
  injection e1 with e1
  injection e1 with e1
  subst e1
  have hO := hB.own.line i hi
  rw [hv] at hO
  refine wpList_put hgd x z _ ho hn hO (fun _ => rfl) hk y infoLine4 (oneLine4 y) hx hz fun w' h1 h2 => ?_
  rw [← hv] at h1
  exact h w' ⟨hB.off e3 hB.ty.h4 h2, hB.own.lineTo hi hv y h2 h1, hB.ty⟩ (.of_grown h2 fun k hk => by injection hk with hk; exact hk.symm)
end
end Wh
